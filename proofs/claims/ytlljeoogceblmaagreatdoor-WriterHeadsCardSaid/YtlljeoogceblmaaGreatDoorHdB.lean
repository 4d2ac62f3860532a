/-
 A part.
-/
import Derived.Test.YtlljeoogceblmaaGreatDoorAvMap
import Derived.Test.YtlljeoogceblmaaGreatDoorK0
import Derived.Test.YtlljeoogceblmaaGreatDoorK1
import Derived.Test.YtlljeoogceblmaaGreatDoorK2
import Derived.Test.YtlljeoogceblmaaGreatDoorK3
import Derived.Test.YtlljeoogceblmaaGreatDoorK4
import Derived.Test.YtlljeoogceblmaaGreatDoorK5
import Derived.Test.YtlljeoogceblmaaGreatDoorK6
import Derived.Test.YtlljeoogceblmaaGreatDoorK7
namespace Go.Av.L
open Go.Av Go.Lib
set_option linter.unusedVariables false
set_option linter.unusedSimpArgs false
set_option maxRecDepth 10000
def Vp (s : List UInt8) (r : Int) : Prop := (r = -1 ∧ ∀ j : Nat, s[j]? ≠ some 47) ∨ ∃ i : Nat, r = (i : Int) ∧ s[i]? = some 47 ∧ ∀ j, i < j → s[j]? ≠ some 47
theorem TX (s : List UInt8) (hs : s.length ≤ 1000000) : W (Bt s 47) (Vp s) := by
 unfold Bt CL
 refine W.bind (W.bind (W.loop (fun x : Int => -1 ≤ x ∧ x < s.length ∧ ∀ j : Nat, x < (j : Int) → s[j]? ≠ some 47) (fun x => (x + 1).toNat) ?_ fun x hx => ?_))
 ·rw [Fk (by omega) (by omega)]
  refine ⟨by omega, by omega, fun j hj e => ?_⟩
  have := (List.getElem?_eq_some_iff.1 e).1
  omega
 ·obtain ⟨h1, h2, h3⟩ := hx
  rw [Cp, Ec]
  by_cases h0 : x ≥ 0
  ·obtain ⟨n, rfl⟩ := Int.eq_ofNat_of_zero_le h0
   have hn : n < s.length := by omega
   rw [if_pos h0, JW hn, Option.bind_some, show (47 : Int) = ((47 : Nat) : Int) from rfl, L0 (by omega)]
   by_cases hb : s[n] = 47
   ·rw [show (s[n] == UInt8.ofNat 47) = true from by rw [hb]; rfl, AU]
    refine W.ret (W.ret (W.ret (.inr ⟨n, rfl, by rw [List.getElem?_eq_getElem hn, hb], fun j hj => h3 j (by omega)⟩)))
   ·rw [show (s[n] == UInt8.ofNat 47) = false from beq_eq_false_iff_ne.2 hb, AM, Fk (by omega) (by omega)]
    refine W.ret ⟨⟨by omega, by omega, fun j hj e => ?_⟩, by omega⟩
    by_cases hj2 : j = n
    ·subst hj2
     rw [List.getElem?_eq_getElem hn] at e
     exact hb (Option.some.inj e)
    ·exact h3 j (by omega) e
  ·rw [if_neg h0]
   refine W.ret (W.ret (W.ret (.inl ⟨rfl, fun j e => h3 j (by omega) e⟩)))
def Cut (s : List UInt8) (i : Nat) : Prop := 1 ≤ i ∧ i ≤ 155 ∧ s[i]? = some 47 ∧ i + 2 ≤ s.length ∧ s.length ≤ i + 101
def Ie (s : List UInt8) (r : List UInt8 × List UInt8 × Bool) : Prop :=
 (s.length ≤ 100 ∧ r = ([], s, true)) ∨ (100 < s.length ∧ ((r = ([], [], false) ∧ ∀ i, ¬ Cut s i) ∨ ∃ i, Cut s i ∧ (∀ j, Cut s j → j ≤ i) ∧ r = (s.take i, s.drop (i + 1), true)))
theorem Ie.uniq {s : List UInt8} {r r' : List UInt8 × List UInt8 × Bool} (h : Ie s r) (h' : Ie s r') : r = r' := by
 rcases h with ⟨h1, rfl⟩ | ⟨h1, h2⟩
 ·rcases h' with ⟨_, rfl⟩ | ⟨h3, _⟩
  ·rfl
  ·omega
 ·rcases h' with ⟨h3, _⟩ | ⟨_, h4⟩
  ·omega
  ·rcases h2 with ⟨rfl, n⟩ | ⟨i, c, m, rfl⟩
   ·rcases h4 with ⟨rfl, _⟩ | ⟨j, d, _, _⟩
    ·rfl
    ·exact absurd d (n j)
   ·rcases h4 with ⟨_, n⟩ | ⟨j, d, k, rfl⟩
    ·exact absurd c (n i)
    ·have := m j d
     have := k i c
     obtain rfl : i = j := by omega
     rfl
theorem Ie.len {s p q : List UInt8} (h : Ie s (p, q, true)) : p.length ≤ 155 ∧ q.length ≤ 100 := by
 rcases h with ⟨h1, e⟩ | ⟨h1, ⟨e, _⟩ | ⟨i, c, _, e⟩⟩
 ·cases e; exact ⟨by simp, h1⟩
 ·cases e
 ·obtain ⟨c1, c2, c3, c4, c5⟩ := c
  cases e
  exact ⟨by rw [List.length_take]; omega, by rw [List.length_drop]; omega⟩
theorem QW {s : List UInt8} {m j : Nat} (h : j < m) : (s.take m)[j]? = s[j]? := List.getElem?_take_of_lt h
theorem Nn (s : List UInt8) (hs : s.length ≤ 1000000) : W (DN s) (Ie s) := by
 unfold DN
 refine W.VP (fun h => W.ret (.inl ⟨by omega, rfl⟩)) fun h => ?_
 have hmn : mn (s.length : Int) 156 = ((min s.length 156 : Nat) : Int) := by unfold mn; split <;> omega
 rw [hmn, Gq (by omega), Option.bind_some]
 refine W.bind ((TX (s.take (min s.length 156)) (by rw [List.length_take]; omega)).mono fun x hx => ?_)
 refine W.bind (W.loop (fun x : Int => ∃ m, m ≤ s.length ∧ m ≤ 156 ∧ Vp (s.take m) x ∧ ∀ j, Cut s j → j < m) (fun x => (x + 1).toNat) ⟨_, by omega, by omega, hx, fun j c => by obtain ⟨c1, c2, c3, c4, c5⟩ := c; omega⟩ fun x hx => ?_)
 obtain ⟨m, hm1, hm2, hq, hc⟩ := hx
 unfold Hg
 dsimp only
 rw [Fk (x := (s.length : Int) - 1) (by omega) (by omega)]
 have fin : (∃ i, Cut s i ∧ (∀ j, Cut s j → j ≤ i) ∧ x = (i : Int)) ∨ ((∀ i, ¬ Cut s i) ∧ (x < 1 ∨ (s.length : Int) - x - 1 > 100)) → W (some (.inr x) : Option (Int ⊕ Int)) fun r => match r with
   | .inl s' => (∃ m, m ≤ s.length ∧ m ≤ 156 ∧ Vp (s.take m) s' ∧ ∀ j, Cut s j → j < m) ∧ (s' + 1).toNat < (x + 1).toNat
   | .inr x4 => W (Aa ((decide (x4 < 1)) || (decide ((IntKind.i64.wrap ((IntKind.i64.wrap ((s.length : Int) - x4)) - 1)) > 100))) (some (([] : List UInt8), ([] : List UInt8), false)) ((D7 s none (some x4)).bind fun x7 => (D7 s (some (IntKind.i64.wrap (x4 + 1))) none).bind fun x8 => some (x7, x8, true))) (Ie s) := by
  intro hh
  have hxb : -1 ≤ x ∧ x < s.length := by
   rcases hq with ⟨rfl, _⟩ | ⟨i, rfl, hi, _⟩
   ·omega
   ·have := (List.getElem?_eq_some_iff.1 hi).1
    rw [List.length_take] at this
    omega
  refine W.ret ?_
  dsimp only
  rw [Fk (x := (s.length : Int) - x) (by omega) (by omega), Fk (by omega) (by omega)]
  rcases hh with ⟨i, c, hmax, rfl⟩ | ⟨n, hb⟩
  ·obtain ⟨c1, c2, c3, c4, c5⟩ := c
   rw [show (decide ((i : Int) < 1) || decide ((s.length : Int) - (i : Int) - 1 > 100)) = false from by rw [Bool.or_eq_false_iff]; exact ⟨decide_eq_false (by omega), decide_eq_false (by omega)⟩, AM, Gq (by omega), Option.bind_some, Fe (by omega), Kz (by omega)]
   exact W.ret (.inr ⟨by omega, .inr ⟨i, ⟨c1, c2, c3, c4, c5⟩, hmax, rfl⟩⟩)
  ·rw [show (decide (x < 1) || decide ((s.length : Int) - x - 1 > 100)) = true from by rw [Bool.or_eq_true, decide_eq_true_eq, decide_eq_true_eq]; exact hb, AU]
   exact W.ret (.inr ⟨by omega, .inl ⟨rfl, n⟩⟩)
 rcases hq with ⟨rfl, hn⟩ | ⟨i, rfl, hi, hl⟩
 ·rw [show (decide ((-1 : Int) > 0) && ((-1 : Int) == (s.length : Int) - 1)) = false from rfl, AM]
  refine (fin (.inr ⟨fun j c => ?_, .inl (by omega)⟩)).mono fun r h => by cases r <;> exact h
  have h3 := hn j
  rw [QW (hc j c)] at h3
  exact h3 c.2.2.1
 ·have hlt := (List.getElem?_eq_some_iff.1 hi).1
  rw [List.length_take] at hlt
  have hsi : s[i]? = some 47 := by rw [← QW (show i < m by omega)]; exact hi
  have hmax : ∀ j, Cut s j → j ≤ i := fun j c => by
   rcases Nat.lt_or_ge i j with h5 | h5
   ·have h3 := hl j h5
    rw [QW (hc j c)] at h3
    exact absurd c.2.2.1 h3
   ·exact h5
  by_cases hlast : 0 < i ∧ i + 1 = s.length
  ·rw [show (decide ((i : Int) > 0) && ((i : Int) == (s.length : Int) - 1)) = true from by rw [Bool.and_eq_true, decide_eq_true_eq, beq_iff_eq]; omega, AU, Gq (by omega), Option.bind_some]
   refine W.bind ((TX (s.take i) (by rw [List.length_take]; omega)).mono fun y hy => W.ret ⟨⟨i, by omega, by omega, hy, fun j c => ?_⟩, ?_⟩)
   ·have := hmax j c
    have := c.2.2.2.1
    omega
   ·rcases hy with ⟨rfl, _⟩ | ⟨k, rfl, hk, _⟩
    ·omega
    ·have := (List.getElem?_eq_some_iff.1 hk).1
     rw [List.length_take] at this
     omega
  ·rw [show (decide ((i : Int) > 0) && ((i : Int) == (s.length : Int) - 1)) = false from by rw [Bool.and_eq_false_iff, decide_eq_false_iff_not, beq_eq_false_iff_ne]; omega, AM]
   refine (fin ?_).mono fun r h => by cases r <;> exact h
   by_cases hc1 : 1 ≤ i ∧ s.length ≤ i + 101
   ·exact .inl ⟨i, ⟨hc1.1, by omega, hsi, by omega, hc1.2⟩, hmax, rfl⟩
   ·refine .inr ⟨fun j c => ?_, by omega⟩
    have := hmax j c
    obtain ⟨c1, c2, c3, c4, c5⟩ := c
    omega
def QH (h : AK) (b : Bool) : Bool := b && (decide (h.Az.length ≤ 100) && (decide (h.Ah.length ≤ 32) && decide (h.Aj.length ≤ 32)))
def R5 (h : AK) : List (Int × Int) := [(1, h.Mode), (2, h.Br), (3, h.CH), (4, h.Eu), (5, h.Time), (9, h.An), (10, h.A2)]
def Q4 (h : AK) : Bool := DZ h.Name || (DZ h.Az || (DZ h.Ah || DZ h.Aj))
def L9 (h : AK) (b : Bool) : Int := if Q4 h = true then 2 else if QH h b = true then (if (R5 h).all MV = true then 0 else 6) else 12
theorem P6 : ∀ (l : List (Int × Int)), (∀ a ∈ l, a.1 = 1 ∨ a.1 = 2 ∨ a.1 = 3 ∨ a.1 = 4 ∨ a.1 = 5 ∨ a.1 = 9 ∨ a.1 = 10) → Bg DF l () = some (if l.all MV = true then .inl () else .inr 6)
 | [], _ => rfl
 | a :: l, h => by
  rw [Bg, Hr (h a (by simp))]
  cases hf : MV a with
  | true =>
   rw [if_pos rfl]
   dsimp only
   rw [P6 l fun c hc => h c (by simp [hc]), List.all_cons, hf, Bool.true_and]
  | false =>
   rw [if_neg (by simp), List.all_cons, hf, Bool.false_and]
   rfl
theorem Ou {h : AK} {p q : List UInt8} {b : Bool} (hp : DN h.Name = some (p, q, b)) : Bd h = some ([(0, q), (11, p), (6, h.Az), (7, h.Ah), (8, h.Aj)], b) := by
 unfold Bd
 rw [hp]
 rfl
theorem Tf {h : AK} {p q : List UInt8} {b : Bool} (hp : DN h.Name = some (p, q, b)) (hq : Ie h.Name (p, q, b)) : BG h = some (L9 h b) := by
 unfold BG L9
 rw [OO, Option.bind_some]
 show (match (if Q4 h = true then (.inr 2 : Unit ⊕ Int) else .inl ()) with | .inl _ => _ | .inr x2 => some x2) = _
 by_cases hn : Q4 h = true
 ·rw [if_pos hn, if_pos hn]
 ·rw [if_neg hn, if_neg hn]
  dsimp only
  rw [Ou hp, Option.bind_some]
  dsimp only
  rw [M3 _ b (Gf (Ou hp)), Option.bind_some]
  dsimp only
  have e : (b && List.all [((0 : Int), q), (11, p), (6, h.Az), (7, h.Ah), (8, h.Aj)] fun a => decide ((a.2.length : Int) ≤ SO a.1)) = QH h b := by
   unfold QH
   cases b with
   | false => rfl
   | true =>
    obtain ⟨l1, l2⟩ := hq.len
    simp only [List.all_cons, List.all_nil, Bool.true_and, Bool.and_true]
    rw [decide_eq_true (show (q.length : Int) ≤ SO 0 by simp [SO]; omega), decide_eq_true (show (p.length : Int) ≤ SO 11 by simp [SO]; omega), Bool.true_and, Bool.true_and]
    rw [show SO 6 = 100 from rfl, show SO 7 = 32 from rfl, show SO 8 = 32 from rfl]
    congr 1
    ·exact decide_eq_decide.2 (by omega)
    ·congr 1 <;> exact decide_eq_decide.2 (by omega)
  rw [e]
  by_cases ht : QH h b = true
  ·rw [ht, Bool.not_true, AM, if_pos rfl]
   have ev : B3 h = some (R5 h) := rfl
   rw [ev, Option.bind_some, P6 _ (KA ev), Option.bind_some]
   by_cases hf : (R5 h).all MV = true
   ·rw [if_pos hf, if_pos hf]
   ·rw [if_neg hf, if_neg hf]
  ·have ht' : QH h b = false := by simpa using ht
   rw [ht', Bool.not_false, AU, if_neg (by simp)]
end Go.Av.L
