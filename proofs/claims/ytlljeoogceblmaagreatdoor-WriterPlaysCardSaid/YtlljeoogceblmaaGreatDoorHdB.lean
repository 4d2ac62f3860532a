/-
 A part.
-/
import Derived.Test.YtlljeoogceblmaaGreatDoorAvMap
import Derived.Test.YtlljeoogceblmaaGreatDoorK0
import Derived.Test.YtlljeoogceblmaaGreatDoorK1
import Derived.Test.YtlljeoogceblmaaGreatDoorK2
import Derived.Test.YtlljeoogceblmaaGreatDoorK3
import Derived.Test.YtlljeoogceblmaaGreatDoorK4
import Derived.Test.YtlljeoogceblmaaGreatDoorK5
import Derived.Test.YtlljeoogceblmaaGreatDoorK6
import Derived.Test.YtlljeoogceblmaaGreatDoorK7
namespace Go.Av.L
open Go.Av Go.Lib
set_option linter.unusedVariables false
set_option linter.unusedSimpArgs false
set_option maxRecDepth 10000
def Ve (s : List UInt8) (r : Int) : Prop := (r = -1 ∧ ∀ j : Nat, s[j]? ≠ some 47) ∨ ∃ i : Nat, r = (i : Int) ∧ s[i]? = some 47 ∧ ∀ j, i < j → s[j]? ≠ some 47
theorem Tx (s : List UInt8) (hs : s.length ≤ 1000000) : W (Bo s 47) (Ve s) := by
 unfold Bo CH
 refine W.bind (W.bind (W.loop (fun x : Int => -1 ≤ x ∧ x < s.length ∧ ∀ j : Nat, x < (j : Int) → s[j]? ≠ some 47) (fun x => (x + 1).toNat) ?_ fun x hx => ?_))
 ·rw [GA (by omega) (by omega)]
  refine ⟨by omega, by omega, fun j hj e => ?_⟩
  have := (List.getElem?_eq_some_iff.1 e).1
  omega
 ·obtain ⟨h1, h2, h3⟩ := hx
  rw [Cs, Ej]
  by_cases h0 : x ≥ 0
  ·obtain ⟨n, rfl⟩ := Int.eq_ofNat_of_zero_le h0
   have hn : n < s.length := by omega
   rw [if_pos h0, JU hn, Option.bind_some, show (47 : Int) = ((47 : Nat) : Int) from rfl, MQ (by omega)]
   by_cases hb : s[n] = 47
   ·rw [show (s[n] == UInt8.ofNat 47) = true from by rw [hb]; rfl, AU]
    refine W.ret (W.ret (W.ret (.inr ⟨n, rfl, by rw [List.getElem?_eq_getElem hn, hb], fun j hj => h3 j (by omega)⟩)))
   ·rw [show (s[n] == UInt8.ofNat 47) = false from beq_eq_false_iff_ne.2 hb, AL, GA (by omega) (by omega)]
    refine W.ret ⟨⟨by omega, by omega, fun j hj e => ?_⟩, by omega⟩
    by_cases hj2 : j = n
    ·subst hj2
     rw [List.getElem?_eq_getElem hn] at e
     exact hb (Option.some.inj e)
    ·exact h3 j (by omega) e
  ·rw [if_neg h0]
   refine W.ret (W.ret (W.ret (.inl ⟨rfl, fun j e => h3 j (by omega) e⟩)))
def Cut (s : List UInt8) (i : Nat) : Prop := 1 ≤ i ∧ i ≤ 155 ∧ s[i]? = some 47 ∧ i + 2 ≤ s.length ∧ s.length ≤ i + 101
def IN (s : List UInt8) (r : List UInt8 × List UInt8 × Bool) : Prop :=
 (s.length ≤ 100 ∧ r = ([], s, true)) ∨ (100 < s.length ∧ ((r = ([], [], false) ∧ ∀ i, ¬ Cut s i) ∨ ∃ i, Cut s i ∧ (∀ j, Cut s j → j ≤ i) ∧ r = (s.take i, s.drop (i + 1), true)))
theorem IN.uniq {s : List UInt8} {r r' : List UInt8 × List UInt8 × Bool} (h : IN s r) (h' : IN s r') : r = r' := by
 rcases h with ⟨h1, rfl⟩ | ⟨h1, h2⟩
 ·rcases h' with ⟨_, rfl⟩ | ⟨h3, _⟩
  ·rfl
  ·omega
 ·rcases h' with ⟨h3, _⟩ | ⟨_, h4⟩
  ·omega
  ·rcases h2 with ⟨rfl, n⟩ | ⟨i, c, m, rfl⟩
   ·rcases h4 with ⟨rfl, _⟩ | ⟨j, d, _, _⟩
    ·rfl
    ·exact absurd d (n j)
   ·rcases h4 with ⟨_, n⟩ | ⟨j, d, k, rfl⟩
    ·exact absurd c (n i)
    ·have := m j d
     have := k i c
     obtain rfl : i = j := by omega
     rfl
theorem IN.len {s p q : List UInt8} (h : IN s (p, q, true)) : p.length ≤ 155 ∧ q.length ≤ 100 := by
 rcases h with ⟨h1, e⟩ | ⟨h1, ⟨e, _⟩ | ⟨i, c, _, e⟩⟩
 ·cases e; exact ⟨by simp, h1⟩
 ·cases e
 ·obtain ⟨c1, c2, c3, c4, c5⟩ := c
  cases e
  exact ⟨by rw [List.length_take]; omega, by rw [List.length_drop]; omega⟩
theorem Qf {s : List UInt8} {m j : Nat} (h : j < m) : (s.take m)[j]? = s[j]? := List.getElem?_take_of_lt h
theorem Np (s : List UInt8) (hs : s.length ≤ 1000000) : W (DJ s) (IN s) := by
 unfold DJ
 refine W.VL (fun h => W.ret (.inl ⟨by omega, rfl⟩)) fun h => ?_
 have hmn : mn (s.length : Int) 156 = ((min s.length 156 : Nat) : Int) := by unfold mn; split <;> omega
 rw [hmn, Ia (by omega), Option.bind_some]
 refine W.bind ((Tx (s.take (min s.length 156)) (by rw [List.length_take]; omega)).mono fun x hx => ?_)
 refine W.bind (W.loop (fun x : Int => ∃ m, m ≤ s.length ∧ m ≤ 156 ∧ Ve (s.take m) x ∧ ∀ j, Cut s j → j < m) (fun x => (x + 1).toNat) ⟨_, by omega, by omega, hx, fun j c => by obtain ⟨c1, c2, c3, c4, c5⟩ := c; omega⟩ fun x hx => ?_)
 obtain ⟨m, hm1, hm2, hq, hc⟩ := hx
 unfold Hn
 dsimp only
 rw [GA (x := (s.length : Int) - 1) (by omega) (by omega)]
 have fin : (∃ i, Cut s i ∧ (∀ j, Cut s j → j ≤ i) ∧ x = (i : Int)) ∨ ((∀ i, ¬ Cut s i) ∧ (x < 1 ∨ (s.length : Int) - x - 1 > 100)) → W (some (.inr x) : Option (Int ⊕ Int)) fun r => match r with
   | .inl s' => (∃ m, m ≤ s.length ∧ m ≤ 156 ∧ Ve (s.take m) s' ∧ ∀ j, Cut s j → j < m) ∧ (s' + 1).toNat < (x + 1).toNat
   | .inr x4 => W (Af ((decide (x4 < 1)) || (decide ((IntKind.i64.wrap ((IntKind.i64.wrap ((s.length : Int) - x4)) - 1)) > 100))) (some (([] : List UInt8), ([] : List UInt8), false)) ((GB s none (some x4)).bind fun x7 => (GB s (some (IntKind.i64.wrap (x4 + 1))) none).bind fun x8 => some (x7, x8, true))) (IN s) := by
  intro hh
  have hxb : -1 ≤ x ∧ x < s.length := by
   rcases hq with ⟨rfl, _⟩ | ⟨i, rfl, hi, _⟩
   ·omega
   ·have := (List.getElem?_eq_some_iff.1 hi).1
    rw [List.length_take] at this
    omega
  refine W.ret ?_
  dsimp only
  rw [GA (x := (s.length : Int) - x) (by omega) (by omega), GA (by omega) (by omega)]
  rcases hh with ⟨i, c, hmax, rfl⟩ | ⟨n, hb⟩
  ·obtain ⟨c1, c2, c3, c4, c5⟩ := c
   rw [show (decide ((i : Int) < 1) || decide ((s.length : Int) - (i : Int) - 1 > 100)) = false from by rw [Bool.or_eq_false_iff]; exact ⟨decide_eq_false (by omega), decide_eq_false (by omega)⟩, AL, Ia (by omega), Option.bind_some, FY (by omega), MH (by omega)]
   exact W.ret (.inr ⟨by omega, .inr ⟨i, ⟨c1, c2, c3, c4, c5⟩, hmax, rfl⟩⟩)
  ·rw [show (decide (x < 1) || decide ((s.length : Int) - x - 1 > 100)) = true from by rw [Bool.or_eq_true, decide_eq_true_eq, decide_eq_true_eq]; exact hb, AU]
   exact W.ret (.inr ⟨by omega, .inl ⟨rfl, n⟩⟩)
 rcases hq with ⟨rfl, hn⟩ | ⟨i, rfl, hi, hl⟩
 ·rw [show (decide ((-1 : Int) > 0) && ((-1 : Int) == (s.length : Int) - 1)) = false from rfl, AL]
  refine (fin (.inr ⟨fun j c => ?_, .inl (by omega)⟩)).mono fun r h => by cases r <;> exact h
  have h3 := hn j
  rw [Qf (hc j c)] at h3
  exact h3 c.2.2.1
 ·have hlt := (List.getElem?_eq_some_iff.1 hi).1
  rw [List.length_take] at hlt
  have hsi : s[i]? = some 47 := by rw [← Qf (show i < m by omega)]; exact hi
  have hmax : ∀ j, Cut s j → j ≤ i := fun j c => by
   rcases Nat.lt_or_ge i j with h5 | h5
   ·have h3 := hl j h5
    rw [Qf (hc j c)] at h3
    exact absurd c.2.2.1 h3
   ·exact h5
  by_cases hlast : 0 < i ∧ i + 1 = s.length
  ·rw [show (decide ((i : Int) > 0) && ((i : Int) == (s.length : Int) - 1)) = true from by rw [Bool.and_eq_true, decide_eq_true_eq, beq_iff_eq]; omega, AU, Ia (by omega), Option.bind_some]
   refine W.bind ((Tx (s.take i) (by rw [List.length_take]; omega)).mono fun y hy => W.ret ⟨⟨i, by omega, by omega, hy, fun j c => ?_⟩, ?_⟩)
   ·have := hmax j c
    have := c.2.2.2.1
    omega
   ·rcases hy with ⟨rfl, _⟩ | ⟨k, rfl, hk, _⟩
    ·omega
    ·have := (List.getElem?_eq_some_iff.1 hk).1
     rw [List.length_take] at this
     omega
  ·rw [show (decide ((i : Int) > 0) && ((i : Int) == (s.length : Int) - 1)) = false from by rw [Bool.and_eq_false_iff, decide_eq_false_iff_not, beq_eq_false_iff_ne]; omega, AL]
   refine (fin ?_).mono fun r h => by cases r <;> exact h
   by_cases hc1 : 1 ≤ i ∧ s.length ≤ i + 101
   ·exact .inl ⟨i, ⟨hc1.1, by omega, hsi, by omega, hc1.2⟩, hmax, rfl⟩
   ·refine .inr ⟨fun j c => ?_, by omega⟩
    have := hmax j c
    obtain ⟨c1, c2, c3, c4, c5⟩ := c
    omega
def QL (h : AN) (b : Bool) : Bool := b && (decide (h.Ax.length ≤ 100) && (decide (h.Aj.length ≤ 32) && decide (h.Al.length ≤ 32)))
def Rj (h : AN) : List (Int × Int) := [(1, h.Mode), (2, h.Bm), (3, h.B3), (4, h.DE), (5, h.Time), (9, h.Ap), (10, h.Ay)]
def Ry (h : AN) : Bool := De h.Name || (De h.Ax || (De h.Aj || De h.Al))
def Lt (h : AN) (b : Bool) : Int := if Ry h = true then 2 else if QL h b = true then (if (Rj h).all MR = true then 0 else 6) else 12
theorem PO : ∀ (l : List (Int × Int)), (∀ a ∈ l, a.1 = 1 ∨ a.1 = 2 ∨ a.1 = 3 ∨ a.1 = 4 ∨ a.1 = 5 ∨ a.1 = 9 ∨ a.1 = 10) → Bc DD l () = some (if l.all MR = true then .inl () else .inr 6)
 | [], _ => rfl
 | a :: l, h => by
  rw [Bc, Hf (h a (by simp))]
  cases hf : MR a with
  | true =>
   rw [if_pos rfl]
   dsimp only
   rw [PO l fun c hc => h c (by simp [hc]), List.all_cons, hf, Bool.true_and]
  | false =>
   rw [if_neg (by simp), List.all_cons, hf, Bool.false_and]
   rfl
theorem Oq {h : AN} {p q : List UInt8} {b : Bool} (hp : DJ h.Name = some (p, q, b)) : Ba h = some ([(0, q), (11, p), (6, h.Ax), (7, h.Aj), (8, h.Al)], b) := by
 unfold Ba
 rw [hp]
 rfl
theorem Ti {h : AN} {p q : List UInt8} {b : Bool} (hp : DJ h.Name = some (p, q, b)) (hq : IN h.Name (p, q, b)) : BL h = some (Lt h b) := by
 unfold BL Lt
 rw [OU, Option.bind_some]
 show (match (if Ry h = true then (.inr 2 : Unit ⊕ Int) else .inl ()) with | .inl _ => _ | .inr x2 => some x2) = _
 by_cases hn : Ry h = true
 ·rw [if_pos hn, if_pos hn]
 ·rw [if_neg hn, if_neg hn]
  dsimp only
  rw [Oq hp, Option.bind_some]
  dsimp only
  rw [Mw _ b (Gp (Oq hp)), Option.bind_some]
  dsimp only
  have e : (b && List.all [((0 : Int), q), (11, p), (6, h.Ax), (7, h.Aj), (8, h.Al)] fun a => decide ((a.2.length : Int) ≤ TE a.1)) = QL h b := by
   unfold QL
   cases b with
   | false => rfl
   | true =>
    obtain ⟨l1, l2⟩ := hq.len
    simp only [List.all_cons, List.all_nil, Bool.true_and, Bool.and_true]
    rw [decide_eq_true (show (q.length : Int) ≤ TE 0 by simp [TE]; omega), decide_eq_true (show (p.length : Int) ≤ TE 11 by simp [TE]; omega), Bool.true_and, Bool.true_and]
    rw [show TE 6 = 100 from rfl, show TE 7 = 32 from rfl, show TE 8 = 32 from rfl]
    congr 1
    ·exact decide_eq_decide.2 (by omega)
    ·congr 1 <;> exact decide_eq_decide.2 (by omega)
  rw [e]
  by_cases ht : QL h b = true
  ·rw [ht, Bool.not_true, AL, if_pos rfl]
   have ev : By h = some (Rj h) := rfl
   rw [ev, Option.bind_some, PO _ (KG ev), Option.bind_some]
   by_cases hf : (Rj h).all MR = true
   ·rw [if_pos hf, if_pos hf]
   ·rw [if_neg hf, if_neg hf]
  ·have ht' : QL h b = false := by simpa using ht
   rw [ht', Bool.not_false, AU, if_neg (by simp)]
end Go.Av.L
