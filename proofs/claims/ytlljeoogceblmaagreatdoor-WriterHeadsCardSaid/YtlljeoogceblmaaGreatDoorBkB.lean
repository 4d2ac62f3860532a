/-
  Several texts in one.
-/
import Derived.Test.YtlljeoogceblmaaGreatDoorK0
import Derived.Test.YtlljeoogceblmaaGreatDoorK1
import Derived.Test.YtlljeoogceblmaaGreatDoorK2
import Derived.Test.YtlljeoogceblmaaGreatDoorK3
import Derived.Test.YtlljeoogceblmaaGreatDoorK4
import Derived.Test.YtlljeoogceblmaaGreatDoorK5
import Derived.Test.YtlljeoogceblmaaGreatDoorK6
import Derived.Test.YtlljeoogceblmaaGreatDoorK7
import Derived.Test.YtlljeoogceblmaaGreatDoorAvMap
import Derived.Test.YtlljeoogceblmaaGreatDoorAvMore
import Derived.Lib.ItoaMem
import Derived.Test.YtlljeoogceblmaaGreatDoorWhA
/-
 A part.
-/
section
namespace Go.Av.L
open Go.Av Go.Lib
set_option linter.unusedVariables false
set_option linter.unusedSimpArgs false
set_option maxRecDepth 10000
abbrev Pr := AA
abbrev LM := List UInt8
def XD (l : List Pr) : Prop := l.Pairwise fun a b => a.Key < b.Key
theorem Td : ∀ {l l' : List Pr}, XD l → XD l' → (∀ q, q ∈ l ↔ q ∈ l') → l = l'
 | [], l', _, _, h => by
  cases l' with
  | nil => rfl
  | cons a l' => exact absurd ((h a).2 (by simp)) (by simp)
 | a :: l, [], _, _, h => absurd ((h a).1 (by simp)) (by simp)
 | a :: l, b :: l', s, s', h => by
  obtain ⟨s1, s2⟩ := List.pairwise_cons.1 s
  obtain ⟨s3, s4⟩ := List.pairwise_cons.1 s'
  have hab : a = b := by
   rcases List.mem_cons.1 ((h a).1 (by simp)) with h1 | h1
   ·exact h1
   ·rcases List.mem_cons.1 ((h b).2 (by simp)) with h2 | h2
    ·exact h2.symm
    ·exact absurd (List.lt_trans (s3 a h1) (s1 b h2)) (List.lt_irrefl _)
  subst hab
  refine congrArg (a :: ·) (Td s2 s4 fun q => ?_)
  constructor
  ·intro hq
   rcases List.mem_cons.1 ((h q).1 (by simp [hq])) with h1 | h1
   ·subst h1; exact absurd (s1 q hq) (List.lt_irrefl _)
   ·exact h1
  ·intro hq
   rcases List.mem_cons.1 ((h q).2 (by simp [hq])) with h1 | h1
   ·subst h1; exact absurd (s3 q hq) (List.lt_irrefl _)
   ·exact h1
def Tx (c : UInt8) : Bool := decide (48 ≤ c.toNat) && decide (c.toNat ≤ 57)
def U8 (v : Nat) (c : UInt8) : Nat := 10 * v + (c.toNat - 48)
def Fo (s : List UInt8) : Nat := s.foldl U8 0
theorem U0 (s : List UInt8) (c : UInt8) : Fo (s ++ [c]) = 10 * Fo s + (c.toNat - 48) := by unfold Fo; rw [List.foldl_append]; rfl
theorem T9 : ∀ (s : List UInt8) (v : Nat), s.all Tx = true → s.foldl U8 v < (v + 1) * 10 ^ s.length
 | [], v, _ => by simp
 | c :: s, v, h => by
  simp only [List.all_cons, Bool.and_eq_true] at h
  have ih := T9 s (U8 v c) h.2
  have hc := h.1
  unfold Tx at hc
  simp only [Bool.and_eq_true, decide_eq_true_eq] at hc
  rw [List.foldl_cons, List.length_cons, Nat.pow_succ]
  refine Nat.lt_of_lt_of_le ih ?_
  have e : (v + 1) * (10 ^ s.length * 10) = ((v + 1) * 10) * 10 ^ s.length := by rw [Nat.mul_comm (10 ^ s.length) 10, Nat.mul_assoc]
  rw [e]
  refine Nat.mul_le_mul_right _ ?_
  unfold U8
  omega
theorem QO {s : List UInt8} (h : s.all Tx = true) {n : Nat} (hn : s.length ≤ n) : Fo s < 10 ^ n := by
 have := T9 s 0 h
 rw [Nat.zero_add, Nat.one_mul] at this
 exact Nat.lt_of_lt_of_le this (Nat.pow_le_pow_right (by decide) hn)
theorem Wy {c : UInt8} (h : Tx c = true) : 48 ≤ c.toNat ∧ c.toNat ≤ 57 := by
 unfold Tx at h
 simpa using h
theorem N9 : ∀ (s : List UInt8) (v : Nat), s.foldl U8 v = v * 10 ^ s.length + Fo s
 | [], v => by simp [Fo]
 | c :: s, v => by
  have h1 := N9 s (U8 v c)
  have h2 := N9 s (U8 0 c)
  unfold Fo at *
  rw [List.foldl_cons, List.foldl_cons, h1, h2, List.length_cons, Nat.pow_succ]
  unfold U8
  rw [Nat.add_mul, Nat.add_mul, Nat.mul_zero, Nat.zero_mul, Nat.zero_add, ← Nat.add_assoc]
  congr 2
  rw [Nat.mul_comm 10 v, Nat.mul_assoc, Nat.mul_comm 10]
theorem Mt (c : UInt8) (s : List UInt8) : Fo (c :: s) = (c.toNat - 48) * 10 ^ s.length + Fo s := by
 have := N9 s (U8 0 c)
 unfold Fo at *
 rw [List.foldl_cons, this]
 unfold U8
 rw [Nat.mul_zero, Nat.zero_add]
theorem Mg {k : Nat} (h : k < 10) : (UInt8.ofNat (48 + k)).toNat = 48 + k := UInt8.toNat_ofNat_of_lt' (by show 48 + k < 256; omega)
theorem Wq {k : Nat} (h : k < 10) : Tx (UInt8.ofNat (48 + k)) = true := by
 unfold Tx
 rw [Mg h, decide_eq_true (by omega), decide_eq_true (by omega)]; rfl
theorem Mp (u : Nat) : (decDigits u).all Tx = true ∧ Fo (decDigits u) = u ∧ 1 ≤ (decDigits u).length := by
 induction u using Nat.strongRecOn with
 | ind u ih =>
  rw [decDigits]
  by_cases h : u < 10
  ·rw [dif_pos h]
   refine ⟨by rw [List.all_cons, List.all_nil, Wq h]; rfl, ?_, by rw [List.length_cons]; omega⟩
   show U8 0 (UInt8.ofNat (48 + u)) = u
   unfold U8
   rw [Mg h]
   omega
  ·rw [dif_neg h]
   obtain ⟨h1, h2, h3⟩ := ih (u / 10) (by omega)
   refine ⟨?_, ?_, by simp⟩
   ·rw [List.all_append, h1, List.all_cons, List.all_nil, Wq (show u % 10 < 10 by omega)]; rfl
   ·rw [U0, h2, Mg (by omega)]; omega
theorem Gu : ∀ (k u : Nat), 1 ≤ k → u < 10 ^ k → (decDigits u).length ≤ k
 | 0, u, h, _ => by omega
 | k + 1, u, _, h => by
  rw [decDigits]
  by_cases h0 : u < 10
  ·rw [dif_pos h0]; simp
  ·rw [dif_neg h0, List.length_append]
   cases k with
   | zero => rw [Nat.zero_add, Nat.pow_one] at h; omega
   | succ k =>
    have := Gu (k + 1) (u / 10) (by omega) (by rw [Nat.pow_succ] at h; omega)
    simp; omega
theorem Hf {n : Int} (h : 0 ≤ n) : Lib.itoa n = decDigits n.toNat := by unfold Lib.itoa; rw [if_neg (by omega)]
theorem WX {n : Int} (h : 0 ≤ n) (h2 : n ≤ 9007199254740991) : 1 ≤ (Lib.itoa n).length ∧ (Lib.itoa n).length ≤ 16 := by
 rw [Hf h]
 exact ⟨(Mp n.toNat).2.2, Gu 16 n.toNat (by omega) (by rw [show 10 ^ 16 = 10000000000000000 from rfl]; omega)⟩
theorem XV {ns : Nat} (h : ns < 1000000000) : ∃ r, decDigits (1000000000 + ns) = 49 :: r ∧ r.length = 9 ∧ r.all Tx = true ∧ Fo r = ns := by
 obtain ⟨f1, f2, f3⟩ := Mp (1000000000 + ns)
 have h1 := Gu 10 (1000000000 + ns) (by omega) (by rw [show 10 ^ 10 = 10000000000 from rfl]; omega)
 cases hd : decDigits (1000000000 + ns) with
 | nil => rw [hd] at f3; simp at f3
 | cons c r =>
  rw [hd] at f1 f2 h1
  rw [List.all_cons, Bool.and_eq_true] at f1
  obtain ⟨c1, c2⟩ := Wy f1.1
  have hlt := QO f1.2 (Nat.le_refl r.length)
  have hl9 : r.length = 9 := by
   rw [List.length_cons] at h1
   rcases Nat.lt_or_ge r.length 9 with h9 | h9
   ·have hb : Fo (c :: r) < 10 ^ (r.length + 1) := QO (by rw [List.all_cons, f1.1, f1.2]; rfl) (by simp)
    have : 10 ^ (r.length + 1) ≤ 10 ^ 9 := Nat.pow_le_pow_right (by decide) (by omega)
    rw [show 10 ^ 9 = 1000000000 from rfl] at this
    omega
   ·omega
  rw [Mt, hl9, show 10 ^ 9 = 1000000000 from rfl] at f2
  rw [hl9, show 10 ^ 9 = 1000000000 from rfl] at hlt
  have hc : c.toNat = 49 := by omega
  refine ⟨r, ?_, hl9, f1.2, by omega⟩
  rw [← UInt8.toNat_inj.1 (show c.toNat = (49 : UInt8).toNat from hc)]
def Ol (t : BZ) : Prop := -9007199254740991 ≤ t.Cn ∧ t.Cn ≤ 9007199254740991 ∧ 0 ≤ t.BV ∧ t.BV < 1000000000
theorem Xh {t : BZ} (h : Ol t) : EK t = some true := by
 obtain ⟨h1, h2, h3, h4⟩ := h
 unfold EK
 rw [decide_eq_true (by omega), decide_eq_true h2, decide_eq_true h3, decide_eq_true h4]; rfl
end Go.Av.L
end
/-
 A part.
-/
section
namespace Go.Av.L
open Go.Av Go.Lib
set_option linter.unusedVariables false
set_option linter.unusedSimpArgs false
set_option maxRecDepth 10000
theorem Lt {ρ : Type} {step : Int → Option (Int ⊕ (Unit ⊕ ρ))} {n : Nat} {c : Nat → Bool} {e : ρ} (hend : step (n : Int) = some (.inr (.inl ()))) (hs : ∀ i : Nat, i < n → step (i : Int) = some (if c i = true then .inl ((i + 1 : Nat) : Int) else .inr (.inr e))) :
  loop step 0 = some (if (List.range n).all c = true then .inl () else .inr e) := by
 have key : ∀ (k i : Nat), i + k = n → (∀ j, j < i → c j = true) → loop step (i : Int) = some (if (List.range n).all c = true then .inl () else .inr e) := by
  intro k
  induction k with
  | zero =>
   intro i hi hc
   obtain rfl : i = n := by omega
   rw [Cu hend, if_pos (by rw [List.all_eq_true]; exact fun j hj => hc j (List.mem_range.1 hj))]
  | succ k ih =>
   intro i hi hc
   have h1 := hs i (by omega)
   by_cases hci : c i = true
   ·rw [if_pos hci] at h1
    rw [CR h1]
    refine ih (i + 1) (by omega) fun j hj => ?_
    by_cases e : j = i
    ·rw [e]; exact hci
    ·exact hc j (by omega)
   ·rw [if_neg hci] at h1
    rw [Cu h1, if_neg]
    intro ha
    rw [List.all_eq_true] at ha
    exact hci (ha i (List.mem_range.2 (by omega)))
 exact key n 0 (by omega) fun j hj => by omega
theorem Um {α : Type} (a b : Bool) (x y : Option α) : Aa a x (Aa b x y) = Aa (a || b) x y := by cases a <;> rfl
theorem Tp (s : List UInt8) (c : UInt8) : BX s (c.toNat : Int) = some (idxOf s c) := by
 unfold BX Cm G3
 have := c.toNat_lt
 rw [if_pos (by omega)]
 simp
def SK : Pr := ⟨[], []⟩
def EL (k : LM) : Bool := k == ([103, 105, 100] : List UInt8) || (k == ([117, 105, 100] : List UInt8) || (k == ([115, 105, 122, 101] : List UInt8) || (k == ([103, 110, 97, 109, 101] : List UInt8) || (k == ([117, 110, 97, 109, 101] : List UInt8) || (k == ([112, 97, 116, 104] : List UInt8) || (k == ([108, 105, 110, 107, 112, 97, 116, 104] : List UInt8) || k == ([109, 116, 105, 109, 101] : List UInt8)))))))
def cX (l : List Pr) (i : Nat) : Bool := !(EL (l.getD i SK).Key || (((l.getD i SK).Key == [] || (l.getD i SK).Value == []) || (decide (idxOf (l.getD i SK).Key 61 ≥ 0) || (decide (0 < i) && !(Op.bytesLess (l.getD (i - 1) SK).Key (l.getD i SK).Key)))))
theorem getD_at {l : List Pr} {i : Nat} (h : i < l.length) : l.getD i SK = l[i] := by rw [List.getD_eq_getElem?_getD, List.getElem?_eq_getElem h]; rfl
theorem SN {l : List Pr} {i : Nat} (hi : i < l.length) (hl : l.length ≤ 1000000) : Ds l (i : Int) = some (if cX l i = true then .inl ((i + 1 : Nat) : Int) else .inr (.inr false)) := by
 unfold Ds
 dsimp only
 rw [decide_eq_true (by omega), AU, Ff hi, Option.bind_some]
 simp only [Um]
 rw [show (61 : Int) = ((61 : UInt8).toNat : Int) from rfl, Tp, Option.bind_some, Fe (by omega)]
 have hp : (Aa (decide ((i : Int) > 0)) ((Hj l (IntKind.i64.wrap ((i : Int) - 1))).bind fun x8 => some (!(Op.bytesLess x8.Key l[i].Key))) (some false) : Option Bool) = some (decide (0 < i) && !(Op.bytesLess (l.getD (i - 1) SK).Key l[i].Key)) := by
  by_cases h0 : 0 < i
  ·rw [decide_eq_true (show (i : Int) > 0 by omega), AU, Fk (by omega) (by omega), show (i : Int) - 1 = ((i - 1 : Nat) : Int) by omega, Ff (by omega), Option.bind_some, getD_at (show i - 1 < l.length by omega), decide_eq_true h0, Bool.true_and]
  ·rw [decide_eq_false (show ¬ (i : Int) > 0 by omega), AM, decide_eq_false h0, Bool.false_and]
 rw [hp, Option.bind_some]
 have hk : cX l i = !(EL l[i].Key || ((l[i].Key == [] || l[i].Value == []) || (decide (idxOf l[i].Key 61 ≥ 0) || (decide (0 < i) && !(Op.bytesLess (l.getD (i - 1) SK).Key l[i].Key))))) := by unfold cX; rw [getD_at hi]
 rw [hk]
 generalize (decide (0 < i) && !(Op.bytesLess (l.getD (i - 1) SK).Key l[i].Key)) = e3
 generalize decide (idxOf l[i].Key 61 ≥ 0) = e2
 generalize (l[i].Key == ([] : List UInt8) || l[i].Value == ([] : List UInt8)) = e1
 unfold EL
 generalize (l[i].Key == ([103, 105, 100] : List UInt8)) = k1
 generalize (l[i].Key == ([117, 105, 100] : List UInt8)) = k2
 generalize (l[i].Key == ([115, 105, 122, 101] : List UInt8)) = k3
 generalize (l[i].Key == ([103, 110, 97, 109, 101] : List UInt8)) = k4
 generalize (l[i].Key == ([117, 110, 97, 109, 101] : List UInt8)) = k5
 generalize (l[i].Key == ([112, 97, 116, 104] : List UInt8)) = k6
 generalize (l[i].Key == ([108, 105, 110, 107, 112, 97, 116, 104] : List UInt8)) = k7
 generalize (l[i].Key == ([109, 116, 105, 109, 101] : List UInt8)) = k8
 generalize (k1 || (k2 || (k3 || (k4 || (k5 || (k6 || (k7 || k8))))))) = e0
 cases e0 <;> cases e1 <;> cases e2 <;> cases e3 <;> rfl
def R7 (l : List Pr) : Bool := (List.range l.length).all (cX l)
theorem Vf (l : List Pr) (hl : l.length ≤ 1000000) : Fb l = some (R7 l) := by
 unfold Fb R7
 have hend : Ds l (l.length : Int) = some (.inr (.inl ())) := by
  unfold Ds
  dsimp only
  rw [decide_eq_false (by omega), AM]
 rw [Lt hend fun i hi => SN hi hl, Option.bind_some]
 by_cases h : (List.range l.length).all (cX l) = true
 ·rw [if_pos h, h]
 ·rw [if_neg h]
  have : (List.range l.length).all (cX l) = false := by simpa using h
  rw [this]
theorem Mb (most : Int) (l : List Int) (hl : l.length ≤ 1000) : Cc most l = some (l.all fun v => decide (0 ≤ v ∧ v < most)) := by
 unfold Cc
 have hend : CS most l (l.length : Int) = some (.inr (.inl ())) := by
  unfold CS
  dsimp only
  rw [decide_eq_false (by omega), AM]
 have hst : ∀ i : Nat, i < l.length → CS most l (i : Int) = some (if decide (0 ≤ l.getD i 0 ∧ l.getD i 0 < most) = true then .inl ((i + 1 : Nat) : Int) else .inr (.inr false)) := by
  intro i hi
  unfold CS
  dsimp only
  rw [decide_eq_true (by omega), AU, Ff hi, Option.bind_some, Fe (by omega), List.getD_eq_getElem?_getD, List.getElem?_eq_getElem hi, Option.getD_some]
  by_cases h : 0 ≤ l[i] ∧ l[i] < most
  ·rw [if_pos (decide_eq_true h), show (decide (l[i] < 0) || decide (l[i] ≥ most)) = false from by rw [Bool.or_eq_false_iff]; exact ⟨decide_eq_false (by omega), decide_eq_false (by omega)⟩, AM]
  ·rw [if_neg (by simpa using h), show (decide (l[i] < 0) || decide (l[i] ≥ most)) = true from by rw [Bool.or_eq_true, decide_eq_true_eq, decide_eq_true_eq]; omega, AU]
 rw [Lt hend hst, Option.bind_some]
 have e : (List.range l.length).all (fun i => decide (0 ≤ l.getD i 0 ∧ l.getD i 0 < most)) = l.all fun v => decide (0 ≤ v ∧ v < most) := by
  rw [Bool.eq_iff_iff, List.all_eq_true, List.all_eq_true]
  constructor
  ·intro h v hv
   obtain ⟨i, hi, rfl⟩ := List.getElem_of_mem hv
   have := h i (List.mem_range.2 hi)
   rwa [List.getD_eq_getElem?_getD, List.getElem?_eq_getElem hi] at this
  ·intro h i hi
   have hi := List.mem_range.1 hi
   have := h _ (List.getElem_mem hi)
   rwa [List.getD_eq_getElem?_getD, List.getElem?_eq_getElem hi]
 rw [show (List.range l.length).all (fun i => decide (0 ≤ l.getD i 0 ∧ l.getD i 0 < most)) = _ from e]
 by_cases h : (l.all fun v => decide (0 ≤ v ∧ v < most)) = true
 ·rw [if_pos h, h]
 ·rw [if_neg h]
  have : (l.all fun v => decide (0 ≤ v ∧ v < most)) = false := by simpa using h
  rw [this]
def M5 (t : BZ) : Bool := ((decide (t.Cn ≥ (-9007199254740991)) && decide (t.Cn ≤ 9007199254740991)) && decide (t.BV ≥ 0)) && decide (t.BV < 1000000000)
theorem TJ (t : BZ) : M5 t = true ↔ Ol t := by
 unfold M5 Ol
 simp only [Bool.and_eq_true, decide_eq_true_eq]
 omega
def Pf (m : AR) : Bool := (decide (0 ≤ m.Br ∧ m.Br < 9007199254740992) && decide (0 ≤ m.CH ∧ m.CH < 9007199254740992)) && ((decide (0 ≤ m.Mode ∧ m.Mode < 2097152) && (decide (0 ≤ m.An ∧ m.An < 2097152) && decide (0 ≤ m.A2 ∧ m.A2 < 2097152))) && M5 m.Time)
def WY (m : AR) : Bool := DZ m.Name || (DZ m.Az || (DZ m.Ah || DZ m.Aj))
def HG (m : AR) : Int := if WY m = true then 2 else if (m.Name == [] || !R7 m.Extra) = true then 2 else if Pf m = true then 0 else 6
theorem Ua (m : AR) : loop (Gl m) 0 = some (if WY m = true then .inr 2 else .inl ()) := OO ⟨m.Name, m.Az, 0, 0, 0, 0, 0, 0, m.Ah, m.Aj, 0, 0, 0⟩
theorem Rk (m : AR) (hl : m.Extra.length ≤ 1000000) : Eh m = some (HG m) := by
 unfold Eh HG
 rw [Ua, Option.bind_some]
 by_cases hn : WY m = true
 ·rw [if_pos hn, if_pos hn]
 ·rw [if_neg hn, if_neg hn]
  dsimp only
  rw [Vf _ hl, Mb _ _ (by simp), Mb _ _ (by simp)]
  unfold Pf EK
  rw [show (((decide (m.Time.Cn ≥ (-9007199254740991)) && decide (m.Time.Cn ≤ 9007199254740991)) && decide (m.Time.BV ≥ 0)) && decide (m.Time.BV < 1000000000)) = M5 m.Time from rfl]
  simp only [Option.bind_some, List.all_cons, List.all_nil, Bool.and_true]
  generalize (decide (0 ≤ m.Br ∧ m.Br < 9007199254740992) && decide (0 ≤ m.CH ∧ m.CH < 9007199254740992)) = b1
  generalize (decide (0 ≤ m.Mode ∧ m.Mode < 2097152) && (decide (0 ≤ m.An ∧ m.An < 2097152) && decide (0 ≤ m.A2 ∧ m.A2 < 2097152))) = b2
  generalize M5 m.Time = b3
  generalize R7 m.Extra = b4
  generalize (m.Name == ([] : List UInt8)) = b5
  cases b5 <;> cases b4 <;> cases b1 <;> cases b2 <;> cases b3 <;> rfl
def Om (m : AR) (n : Int) : Int := if HG m = 0 then (if 0 ≤ n ∧ n < 9007199254740992 then 0 else 6) else HG m
theorem R1 (m : AR) (n : Int) (hl : m.Extra.length ≤ 1000000) : Ei m n = some (Om m n) := by
 unfold Ei Om
 rw [Rk m hl, Option.bind_some]
 by_cases h : HG m = 0
 ·rw [if_pos h, h, show ((0 : Int) != 0) = false from rfl, AM, Mb _ _ (by simp), Option.bind_some]
  simp only [List.all_cons, List.all_nil, Bool.and_true]
  by_cases hn : 0 ≤ n ∧ n < 9007199254740992
  ·rw [decide_eq_true hn, if_pos hn]; rfl
  ·rw [decide_eq_false hn, if_neg hn]; rfl
 ·rw [if_neg h, bne_iff_ne.2 h, AU]
def YY (l : List Pr) : Prop := XD l ∧ ∀ p ∈ l, EL p.Key = false ∧ p.Key ≠ [] ∧ p.Value ≠ [] ∧ (61 : UInt8) ∉ p.Key
theorem Tc : ∀ {l : List Pr}, (∀ i, (h : i + 1 < l.length) → l[i].Key < l[i + 1].Key) → XD l
 | [], _ => .nil
 | a :: l, h => by
  refine List.pairwise_cons.2 ⟨fun b hb => ?_, Tc fun i hi => h (i + 1) (by simpa using hi)⟩
  obtain ⟨j, hj, rfl⟩ := List.getElem_of_mem hb
  induction j with
  | zero => exact h 0 (by simpa using hj)
  | succ j ih => exact List.lt_trans (ih (by omega) (List.getElem_mem _)) (h (j + 1) (by simpa using hj))
theorem UX {l : List Pr} (h : R7 l = true) : YY l := by
 unfold R7 at h
 rw [List.all_eq_true] at h
 have at_ : ∀ i (hi : i < l.length), EL l[i].Key = false ∧ l[i].Key ≠ [] ∧ l[i].Value ≠ [] ∧ (61 : UInt8) ∉ l[i].Key ∧ (0 < i → Op.bytesLess (l.getD (i - 1) SK).Key l[i].Key = true) := by
  intro i hi
  have hc := h i (List.mem_range.2 hi)
  unfold cX at hc
  rw [getD_at hi] at hc
  simp only [Bool.not_eq_true', Bool.or_eq_false_iff, beq_eq_false_iff_ne, decide_eq_false_iff_not, Bool.and_eq_false_iff, Bool.not_eq_false'] at hc
  obtain ⟨h1, ⟨h2, h3⟩, h4, h5⟩ := hc
  refine ⟨h1, h2, h3, fun hm => h4 ((Kw _ _).2 hm), fun hp => ?_⟩
  rcases h5 with h5 | h5
  ·exact absurd hp h5
  ·exact h5
 refine ⟨Tc fun i hi => ?_, fun p hp => ?_⟩
 ·have := (at_ (i + 1) hi).2.2.2.2 (by omega)
  rw [Nat.add_sub_cancel, getD_at (show i < l.length by omega), Go.Proofs.bytesLess_eq] at this
  simpa using this
 ·obtain ⟨i, hi, rfl⟩ := List.getElem_of_mem hp
  obtain ⟨h1, h2, h3, h4, _⟩ := at_ i hi
  exact ⟨h1, h2, h3, h4⟩
structure Km (m : AR) : Prop where
 nN : DZ m.Name = false
 nL : DZ m.Az = false
 nU : DZ m.Ah = false
 nG : DZ m.Aj = false
 ne : m.Name ≠ []
 ex : YY m.Extra
 ui : 0 ≤ m.Br ∧ m.Br < 9007199254740992
 gi : 0 ≤ m.CH ∧ m.CH < 9007199254740992
 mo : 0 ≤ m.Mode ∧ m.Mode < 2097152
 ma : 0 ≤ m.An ∧ m.An < 2097152
 mi : 0 ≤ m.A2 ∧ m.A2 < 2097152
 ti : Ol m.Time
theorem U4 {m : AR} (h : HG m = 0) : Km m := by
 unfold HG at h
 split at h
 ·cases h
 split at h
 ·cases h
 split at h
 rotate_left
 ·cases h
 rename_i h1 h2 h3
 unfold WY at h1
 simp only [Bool.not_eq_true, Bool.or_eq_false_iff, beq_eq_false_iff_ne, Bool.not_eq_false'] at h1 h2
 unfold Pf at h3
 simp only [Bool.and_eq_true, decide_eq_true_eq, TJ] at h3
 obtain ⟨n1, n2, n3, n4⟩ := h1
 obtain ⟨⟨g1, g2⟩, ⟨g3, g4, g5⟩, g6⟩ := h3
 exact ⟨n1, n2, n3, n4, h2.1, UX h2.2, g1, g2, g3, g4, g5, g6⟩
structure Hc (h : AK) : Prop where
 nN : DZ h.Name = false
 nL : DZ h.Az = false
 nU : DZ h.Ah = false
 nG : DZ h.Aj = false
 pt : ∃ p q, Ie h.Name (p, q, true)
 lk : h.Az.length ≤ 100
 un : h.Ah.length ≤ 32
 gn : h.Aj.length ≤ 32
 mo : 0 ≤ h.Mode ∧ h.Mode < 2097152
 ui : 0 ≤ h.Br ∧ h.Br < 2097152
 gi : 0 ≤ h.CH ∧ h.CH < 2097152
 si : 0 ≤ h.Eu ∧ h.Eu < 8589934592
 ti : 0 ≤ h.Time ∧ h.Time < 8589934592
 ma : 0 ≤ h.An ∧ h.An < 2097152
 mi : 0 ≤ h.A2 ∧ h.A2 < 2097152
theorem Ke (h : AK) : (R5 h).all MV = true ↔ (0 ≤ h.Mode ∧ h.Mode < 2097152) ∧ (0 ≤ h.Br ∧ h.Br < 2097152) ∧ (0 ≤ h.CH ∧ h.CH < 2097152) ∧ (0 ≤ h.Eu ∧ h.Eu < 8589934592) ∧ (0 ≤ h.Time ∧ h.Time < 8589934592) ∧ (0 ≤ h.An ∧ h.An < 2097152) ∧ (0 ≤ h.A2 ∧ h.A2 < 2097152) := by
 unfold R5 MV
 simp
theorem Vr (h : AK) (hn : h.Name.length ≤ 1000000) : ∃ e, BG h = some e ∧ (e = 0 ↔ Hc h) := by
 obtain ⟨⟨p, q, b⟩, ep, hq⟩ := Nn h.Name hn
 refine ⟨L9 h b, Tf ep hq, fun h0 => ?_, fun F => ?_⟩
 ·unfold L9 at h0
  split at h0
  ·cases h0
  split at h0
  rotate_left
  ·cases h0
  split at h0
  rotate_left
  ·cases h0
  rename_i h1 h2 h3
  unfold Q4 at h1
  simp only [Bool.not_eq_true, Bool.or_eq_false_iff] at h1
  unfold QH at h2
  simp only [Bool.and_eq_true, decide_eq_true_eq] at h2
  rw [Ke] at h3
  obtain ⟨rfl, t1, t2, t3⟩ := h2
  obtain ⟨n1, n2, n3, n4⟩ := h1
  obtain ⟨g1, g2, g3, g4, g5, g6, g7⟩ := h3
  exact ⟨n1, n2, n3, n4, ⟨p, q, hq⟩, t1, t2, t3, g1, g2, g3, g4, g5, g6, g7⟩
 ·obtain ⟨p', q', hq'⟩ := F.pt
  have e := hq.uniq hq'
  cases e
  unfold L9
  rw [if_neg (by unfold Q4; rw [F.nN, F.nL, F.nU, F.nG]; simp), if_pos (by unfold QH; simp only [Bool.true_and, Bool.and_eq_true, decide_eq_true_eq]; exact ⟨F.lk, F.un, F.gn⟩),
   if_pos ((Ke h).2 ⟨F.mo, F.ui, F.gi, F.si, F.ti, F.ma, F.mi⟩)]
theorem Hc.fit {h : AK} (F : Hc h) (hn : h.Name.length ≤ 1000000) (hk : 0 ≤ h.Kind ∧ h.Kind ≤ 255) : ∃ p q, Fit h p q := by
 obtain ⟨⟨p, q, b⟩, ep, hq⟩ := Nn h.Name hn
 obtain ⟨p', q', hq'⟩ := F.pt
 have e := hq.uniq hq'
 cases e
 exact ⟨p, q, ep, hq, by unfold Q4; rw [F.nN, F.nL, F.nU, F.nG]; rfl, ⟨F.lk, F.un, F.gn⟩, (Ke h).2 ⟨F.mo, F.ui, F.gi, F.si, F.ti, F.ma, F.mi⟩, hk⟩
theorem IN {h w : AK} {c : Prop} [Decidable c] (hc : Hc w ↔ c) (hn : w.Name.length ≤ 1000000) {k v : List UInt8} {l : List Pr} (hl : l.length ≤ 100) :
  ((BG w).bind fun x2 => Aa (x2 == 0) (some (w, l)) (BS (Ov 32 (l.length + ([(⟨k, v⟩ : AA)] : List AA).length)) <| some (h, (l ++ ([(⟨k, v⟩ : AA)] : List AA))))) = some (if c then w else h, l ++ if c then [] else [⟨k, v⟩]) := by
 obtain ⟨e, he, hF⟩ := Vr w hn
 rw [he, Option.bind_some, N7]
 by_cases h0 : c
 ·rw [if_pos (hF.2 (hc.2 h0)), if_pos h0, if_pos h0, List.append_nil]
 ·rw [if_neg (fun h => h0 (hc.1 (hF.1 h))), if_neg h0, if_neg h0, IB (by simp; omega) (by simp; omega), Af]
end Go.Av.L
end
