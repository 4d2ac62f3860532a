/-
 A part.
-/
import Derived.Test.YtlljeoogceblmaaGreatDoorWhD
namespace Go.Av.L
open Go.Av Go.Lib
set_option linter.unusedVariables false
set_option linter.unusedSimpArgs false
set_option maxRecDepth 10000
theorem decl (u : Nat) (h : u < 10000) : (decDigits u).length = if u < 10 then 1 else if u < 100 then 2 else if u < 1000 then 3 else 4 := by
 have h1 : ∀ v, v < 10 → (decDigits v).length = 1 := fun v hv => by rw [QF hv]; rfl
 have hs : ∀ v, ¬ v < 10 → (decDigits v).length = (decDigits (v / 10)).length + 1 := fun v hv => by rw [decDigits, dif_neg hv, List.length_append]; rfl
 split
 ·exact h1 u (by omega)
 ·rw [hs u (by omega)]
  split
  ·rw [h1 _ (by omega)]
  ·rw [hs _ (by omega)]
   split
   ·rw [h1 _ (by omega)]
   ·rw [hs _ (by omega), h1 _ (by omega)]
def bare (p : Pr) : Nat := p.Key.length + p.Value.length + 3
def Ow (p : Pr) : Nat := bare p + (decDigits (bare p + (decDigits (bare p)).length)).length
theorem Va (p : Pr) (h : bare p ≤ 5000) : bare p + (decDigits (Ow p)).length = Ow p ∧ bare p < Ow p ∧ Ow p ≤ bare p + 4 ∧ ∀ x, bare p < x → x < Ow p → bare p + (decDigits x).length ≠ x := by
 have h3 : 3 ≤ bare p := by unfold bare; omega
 have e1 := decl (bare p) (by omega)
 have e2 := decl (bare p + (decDigits (bare p)).length) (by split at e1 <;> first | omega | (split at e1 <;> first | omega | (split at e1 <;> omega)))
 have hr : Ow p = bare p + (decDigits (bare p + (decDigits (bare p)).length)).length := rfl
 generalize (decDigits (bare p)).length = a at *
 generalize (decDigits (bare p + a)).length = b at *
 generalize bare p = n at *
 generalize Ow p = r at *
 have hb : b ≤ 4 ∧ 1 ≤ b := by split at e2 <;> first | omega | (split at e2 <;> first | omega | (split at e2 <;> omega))
 have key : ∀ x, x ≤ r → (decDigits x).length = if x < 10 then 1 else if x < 100 then 2 else if x < 1000 then 3 else 4 := fun x hx => decl x (by omega)
 have er := key r (Nat.le_refl _)
 refine ⟨?_, by omega, by omega, fun x h1 h2 => ?_⟩
 ·rw [er]
  repeat' split
  all_goals (repeat' split at e1)
  all_goals (repeat' split at e2)
  all_goals omega
 ·rw [key x (by omega)]
  repeat' split
  all_goals (repeat' split at e1)
  all_goals (repeat' split at e2)
  all_goals omega
theorem RQ (p : Pr) (h : bare p ≤ 5000) : Eg p = some (Ow p : Int) := by
 have h3 : (p.Key.length : Int) + (p.Value.length : Int) = ((p.Key.length + p.Value.length : Nat) : Int) := by omega
 have hb : ((p.Key.length + p.Value.length : Nat) : Int) + 3 = (bare p : Int) := by unfold bare; omega
 have hl : p.Key.length + p.Value.length ≤ 5000 := by unfold bare at h; omega
 have hd : ∀ v, v ≤ 5010 → (decDigits v).length ≤ 4 := fun v hv => Gu 4 v (by omega) (by rw [show 10 ^ 4 = 10000 from rfl]; omega)
 have hi : ∀ v : Nat, Lib.itoa (v : Int) = decDigits v := fun v => by rw [Hf (by omega), Int.toNat_natCast]
 have d1 := hd (bare p) (by omega)
 have d2 := hd (bare p + (decDigits (bare p)).length) (by omega)
 unfold Eg
 rw [h3, Fk (x := ((p.Key.length + p.Value.length : Nat) : Int)) (by omega) (by omega), hb, Fk (x := (bare p : Int)) (by omega) (by omega), decide_eq_true (by omega), Af, hi]
 rw [Fk (x := (bare p : Int) + ((decDigits (bare p)).length : Int)) (by omega) (by omega), decide_eq_true (by omega), Af, show (bare p : Int) + ((decDigits (bare p)).length : Int) = ((bare p + (decDigits (bare p)).length : Nat) : Int) by omega, hi, Fk (by omega) (by omega)]
 congr 1
theorem UQ (p : Pr) (h : bare p ≤ 5000) : Dg p = some (Ow p : Int) := by
 obtain ⟨f1, f2, f3, f4⟩ := Va p h
 have h3 : (p.Key.length : Int) + (p.Value.length : Int) = ((p.Key.length + p.Value.length : Nat) : Int) := by omega
 have hb : ((p.Key.length + p.Value.length : Nat) : Int) + 3 = (bare p : Int) := by unfold bare; omega
 have hl : p.Key.length + p.Value.length ≤ 5000 := by unfold bare at h; omega
 have key : ∀ (k x : Nat), x + k = Ow p → bare p < x → loop (Cv p) (x : Int) = some (.inr (Ow p : Int)) := by
  intro k
  have hd : ∀ x, x ≤ Ow p → (decDigits x).length ≤ 4 := fun v hv => Gu 4 v (by omega) (by rw [show 10 ^ 4 = 10000 from rfl]; omega)
  induction k with
  | zero =>
   intro x hx hlt
   obtain rfl : x = Ow p := by omega
   have := hd (Ow p) (Nat.le_refl _)
   refine Cu ?_
   unfold Cv
   dsimp only
   rw [h3, Fk (x := ((p.Key.length + p.Value.length : Nat) : Int)) (by omega) (by omega), hb, Fk (x := (bare p : Int)) (by omega) (by omega), Fk (x := (bare p : Int) + 20) (by omega) (by omega), decide_eq_true (by omega), AU, PV _ (by omega), Option.bind_some, Fk (by omega) (by omega),
    show ((bare p : Int) + ((decDigits (Ow p)).length : Int) == (Ow p : Int)) = true from by rw [beq_iff_eq]; omega, AU]
  | succ k ih =>
   intro x hx hlt
   have := hd x (by omega)
   have hne := f4 x hlt (by omega)
   refine (CR ?_).trans (ih (x + 1) (by omega) (by omega))
   unfold Cv
   dsimp only
   rw [h3, Fk (x := ((p.Key.length + p.Value.length : Nat) : Int)) (by omega) (by omega), hb, Fk (x := (bare p : Int)) (by omega) (by omega), Fk (x := (bare p : Int) + 20) (by omega) (by omega), decide_eq_true (by omega), AU, PV _ (by omega), Option.bind_some, Fk (x := (bare p : Int) + ((decDigits x).length : Int)) (by omega) (by omega),
    show ((bare p : Int) + ((decDigits x).length : Int) == (x : Int)) = false from by rw [beq_eq_false_iff_ne]; omega, AM, Fe (by omega)]
 unfold Dg
 rw [h3, Fk (x := ((p.Key.length + p.Value.length : Nat) : Int)) (by omega) (by omega), hb, Fk (x := (bare p : Int)) (by omega) (by omega), Fe (by omega), key (Ow p - (bare p + 1)) (bare p + 1) (by omega) (by omega)]
 rfl
theorem ZB : ∀ k : Fin 100, Eb ((k.val : Nat) : Int) = some (if k.val < 10 then [UInt8.ofNat (48 + k.val)] else [UInt8.ofNat (48 + k.val / 10), UInt8.ofNat (48 + k.val % 10)]) := by decide +kernel
theorem W4 {u : Nat} (h : u < 100) : Eb (u : Int) = some (decDigits u) := by
 rw [ZB ⟨u, h⟩]
 dsimp only
 split
 ·rename_i h1; rw [QF h1]
 ·rename_i h1; rw [Lib.decDigits_two h1 h]
theorem Xg (u : Nat) : I3 (Lib.nDigits u) u = decDigits u := (Lib.decDigits_eq u).symm
theorem X5 (x : List UInt8) {u : Nat} (hu : u < 10000) (hx : x.length ≤ 100000) : CX x (u : Int) 10 = some (x ++ decDigits u) := by
 have hd := Gu 4 u (by omega) (by rw [show 10 ^ 4 = 10000 from rfl]; omega)
 have hw : IntKind.u64.wrap (u : Int) = (u : Int) := by rw [IntKind.wrap_u64]; omega
 unfold CX Co
 rw [decide_eq_false (by omega), AM, hw, Option.bind_some]
 dsimp only
 unfold C6
 rw [show ((10 : Int) == 10) = true from rfl, AU]
 by_cases h : u < 100
 ·rw [decide_eq_true (by omega), AU, Fk (by omega) (by omega), W4 h, Option.bind_some, IB (by omega) (by omega), Af]
  rfl
 ·have hl : (decDigits u).length = Lib.nDigits u := Lib.decDigits_length u
  have hn : Ur 24 ((Lib.nDigits u : Nat) : Int) = some (Lib.nDigits u) := by unfold Ur; rw [if_pos (by omega), Int.toNat_natCast]
  have hp := Lib.nDigits_pos u
  have hf : Pu (Lib.nDigits u) (u : Int) = true := by
   unfold Pu
   refine decide_eq_true ⟨by omega, by omega, by omega, by omega, ?_⟩
   rw [Int.toNat_natCast]
   exact Lib.lt_pow_nDigits u
  rw [decide_eq_false (by omega), AM, decide_eq_true (by omega), Af, Int.toNat_natCast, hn, Option.bind_some, hf, Bool.true_and, decide_eq_true (by rw [List.length_replicate]; omega), Af, Option.bind_some, Xg, decide_eq_true (by rw [List.length_append]; omega), Af, ← hl, List.take_left, IB (by omega) (by omega), Af]
  rfl
def Sp (p : Pr) : List UInt8 := decDigits (Ow p) ++ ([32] ++ (p.Key ++ ([61] ++ (p.Value ++ [10]))))
def Ge (l : List Pr) : List UInt8 := (l.map Sp).flatten
theorem La (l : List Pr) (p : Pr) : Ge (l ++ [p]) = Ge l ++ Sp p := by unfold Ge; rw [List.map_append, List.flatten_append]; simp
structure NT (p : Pr) : Prop where
 ne : p.Key ≠ []
 eq : (61 : UInt8) ∉ p.Key
 b : bare p ≤ 1500
theorem MP {p : Pr} (h : NT p) : (Sp p).length = Ow p ∧ Ow p ≤ 1504 := by
 obtain ⟨f1, f2, f3, f4⟩ := Va p (by have := h.b; omega)
 have := h.b
 refine ⟨?_, by omega⟩
 rw [← f1]
 unfold Sp bare
 simp only [List.length_append, List.length_cons, List.length_nil]
 omega
theorem Hb : ∀ {l : List Pr}, (∀ p ∈ l, NT p) → (Ge l).length ≤ 1504 * l.length
 | [], _ => by simp [Ge]
 | p :: l, h => by
  have h1 := MP (h p (by simp))
  have h2 := Hb fun q hq => h q (List.mem_cons_of_mem _ hq)
  show (Sp p ++ Ge l).length ≤ _
  rw [List.length_append, List.length_cons]
  omega
theorem Tw {p : Pr} (h : (61 : UInt8) ∉ p.Key) : idxOf p.Key 61 < 0 := by
 have := mt (Kw p.Key 61).1 h
 omega
theorem Ux {p : Pr} (h : NT p) : Ey p = some true := by
 unfold Ey
 rw [show (p.Key == ([] : List UInt8)) = false from beq_eq_false_iff_ne.2 h.ne, Bool.not_false, AU, show (61 : Int) = ((61 : UInt8).toNat : Int) from rfl, Tp, Option.bind_some, decide_eq_true (Tw h.eq)]
 rfl
theorem RL {p : Pr} (h : NT p) : Bz p = some true := by
 have := h.b
 rw [N0 p (by unfold bare at this; omega), show (p.Key == ([] : List UInt8)) = false from beq_eq_false_iff_ne.2 h.ne, decide_eq_false (by have := Tw h.eq; omega)]
 rfl
theorem V4 {l : List Pr} (hl : l.length ≤ 20) (h : ∀ p ∈ l, NT p) : ED l = some (Ge l, 0) := by
 have h0 : loop (DP l) ((0 : Int), (0 : Int)) = some (.inl ((Ge l).length : Int)) := by
  refine W.eq (W.list (l := l) (fun (s : Int) (i : Nat) => (s, (i : Int))) (fun s i => s = ((Ge (l.take i)).length : Int)) ?_ ?_ (0 : Int) (by simp [Ge]))
  ·intro s hs
   unfold DP
   dsimp only
   rw [decide_eq_false (by omega), AM]
   refine W.ret ?_
   rw [hs, List.take_length]
  ·intro s i hi hs
   have hr := h l[i] (List.getElem_mem hi)
   have hz := MP hr
   have hb := hr.b
   have ht := Hb (l := l.take i) fun p hp => h p (List.mem_of_mem_take hp)
   rw [List.length_take] at ht
   unfold DP
   dsimp only
   rw [decide_eq_true (by omega), AU, Ff hi, Option.bind_some, Ux hr, Option.bind_some, Bool.not_true, AM, RQ _ (by omega), Option.bind_some, Fe (by omega)]
   refine W.ret ⟨_, rfl, ?_⟩
   rw [hs, I4 (List.getElem?_eq_getElem hi), La, List.length_append, hz.1, Fk (by omega) (by omega)]
   unfold mn
   split <;> omega
 have h1 : loop (DO l) (([] : List UInt8), (0 : Int)) = some (Ge l) := by
  refine W.eq (W.list (l := l) (fun (s : List UInt8) (i : Nat) => (s, (i : Int))) (fun s i => s = Ge (l.take i)) ?_ ?_ ([] : List UInt8) (by simp [Ge]))
  ·intro s hs
   unfold DO
   dsimp only
   rw [decide_eq_false (by omega), AM]
   refine W.ret ?_
   rw [hs, List.take_length]
  ·intro s i hi hs
   have hr := h l[i] (List.getElem_mem hi)
   have hz := MP hr
   have hb := hr.b
   have ht := Hb (l := l.take i) fun p hp => h p (List.mem_of_mem_take hp)
   rw [List.length_take, ← hs] at ht
   have hkl : l[i].Key.length + l[i].Value.length ≤ 1500 := by unfold bare at hb; omega
   have hdl := Gu 4 (Ow l[i]) (by omega) (by rw [show 10 ^ 4 = 10000 from rfl]; omega)
   unfold DO
   dsimp only
   rw [decide_eq_true (by omega), AU, Ff hi, Option.bind_some, RQ _ (by omega), Option.bind_some, X5 s (by omega) (by omega), Option.bind_some, decide_eq_true (by simp only [List.length_append, List.length_cons, List.length_nil]; omega), Af, decide_eq_true (by simp only [List.length_append, List.length_cons, List.length_nil]; omega), Af, decide_eq_true (by simp only [List.length_append, List.length_cons, List.length_nil]; omega), Af, decide_eq_true (by simp only [List.length_append, List.length_cons, List.length_nil]; omega), Af, IB (by simp only [List.length_append, List.length_cons, List.length_nil]; omega) (by simp only [List.length_append, List.length_cons, List.length_nil]; omega), Af, Fe (by omega)]
   refine W.ret ⟨_, rfl, ?_⟩
   rw [hs, I4 (List.getElem?_eq_getElem hi), La]
   unfold Sp
   simp only [List.append_assoc]
 have hlen := Hb h
 unfold ED
 rw [decide_eq_false (by omega), AM, h0, Option.bind_some]
 dsimp only
 rw [decide_eq_false (by omega), AM, h1, Option.bind_some]
theorem Uo {l : List Pr} (hl : l.length ≤ 20) (h : ∀ p ∈ l, NT p) : Ci l = some (Ge l, 0) := by
 have h0 : loop (B0 l) (0 : Int) = some (.inl ()) := by
  refine W.eq (W.list (l := l) (fun (_ : Unit) (i : Nat) => (i : Int)) (fun _ _ => True) ?_ ?_ () trivial)
  ·intro s hs
   unfold B0
   dsimp only
   rw [decide_eq_false (by omega), AM]
   exact W.ret rfl
  ·intro s i hi hs
   unfold B0
   dsimp only
   rw [decide_eq_true (by omega), AU, Ff hi, Option.bind_some, RL (h l[i] (List.getElem_mem hi)), Option.bind_some, Bool.not_true, AM, Fe (by omega)]
   exact W.ret ⟨(), rfl, trivial⟩
 have h1 : loop (Bx l) (([] : List UInt8), (0 : Int)) = some (.inl (Ge l)) := by
  refine W.eq (W.list (l := l) (fun (s : List UInt8) (i : Nat) => (s, (i : Int))) (fun s i => s = Ge (l.take i)) ?_ ?_ ([] : List UInt8) (by simp [Ge]))
  ·intro s hs
   unfold Bx
   dsimp only
   rw [decide_eq_false (by omega), AM]
   refine W.ret ?_
   rw [hs, List.take_length]
  ·intro s i hi hs
   have hr := h l[i] (List.getElem_mem hi)
   have hz := MP hr
   have hb := hr.b
   have ht := Hb (l := l.take i) fun p hp => h p (List.mem_of_mem_take hp)
   rw [List.length_take, ← hs] at ht
   have hkl : l[i].Key.length + l[i].Value.length ≤ 1500 := by unfold bare at hb; omega
   have hdl := Gu 4 (Ow l[i]) (by omega) (by rw [show 10 ^ 4 = 10000 from rfl]; omega)
   unfold Bx
   dsimp only
   rw [decide_eq_true (by omega), AU, Ff hi, Option.bind_some, Option.bind_some, Option.bind_some, UQ _ (by omega), Option.bind_some, PV _ (by omega), Option.bind_some, decide_eq_true (by simp only [List.length_append, List.length_cons, List.length_nil]; omega), Af, decide_eq_true (by simp only [List.length_append, List.length_cons, List.length_nil]; omega), Af, decide_eq_true (by simp only [List.length_append, List.length_cons, List.length_nil]; omega), Af, decide_eq_true (by simp only [List.length_append, List.length_cons, List.length_nil]; omega), Af, decide_eq_true (by simp only [List.length_append, List.length_cons, List.length_nil]; omega), Af, decide_eq_true (by simp only [List.length_append, List.length_cons, List.length_nil]; omega), Af, decide_eq_false (by simp only [List.length_append, List.length_cons, List.length_nil]; omega), AM, Fe (by omega)]
   refine W.ret ⟨_, rfl, ?_⟩
   rw [hs, I4 (List.getElem?_eq_getElem hi), La]
   unfold Sp
   simp only [List.append_assoc]
 unfold Ci
 rw [decide_eq_false (by omega), AM, h0, Option.bind_some]
 dsimp only
 rw [h1, Option.bind_some]
def O0 (s : List UInt8) : List UInt8 := s ++ List.replicate ((512 - s.length % 512) % 512) 0
theorem XU (k : Nat) : Lib.repeatL ([0] : List UInt8) k = List.replicate k 0 := by
 induction k with
 | zero => rfl
 | succ k ih => rw [List.replicate_succ, ← ih]; rfl
theorem Yq {s : List UInt8} (h : s.length ≤ 100000) : He s = some (O0 s) := by
 have e : Int.tmod (IntKind.i64.wrap ((512 : Int) - (Int.tmod (s.length : Int) (512 : Int)))) (512 : Int) = (((512 - s.length % 512) % 512 : Nat) : Int) := by
  rw [show (512 : Int) = ((512 : Nat) : Int) from rfl, Rz]
  have := Nat.mod_lt s.length (show 0 < 512 by decide)
  generalize s.length % 512 = r at *
  rw [Fk (by omega) (by omega), show ((512 : Nat) : Int) - (r : Int) = ((512 - r : Nat) : Int) by omega, Rz]
 have hlt := Nat.mod_lt (512 - s.length % 512) (show 0 < 512 by decide)
 unfold He Gy
 rw [Option.bind_some, e, Int.toNat_natCast, XU]
 unfold O0
 generalize (512 - s.length % 512) % 512 = k at *
 rw [show Q9 ([0] : List UInt8) (k : Int) = true from decide_eq_true ⟨by omega, by omega, by simp; omega⟩, Af, decide_eq_true (by rw [List.length_replicate]; omega), Af]
theorem X1 {s : List UInt8} (h : s.length ≤ 100000) : Dw s = some (O0 s) := by
 have key : ∀ (k j : Nat), j + k = (512 - s.length % 512) % 512 → loop C8 (s ++ List.replicate j 0) = some (O0 s) := by
  intro k
  induction k with
  | zero =>
   intro j hj
   refine Cu ?_
   unfold C8 O0
   dsimp only
   rw [← hj, Nat.add_zero, show (512 : Int) = ((512 : Nat) : Int) from rfl, Rz, List.length_append, List.length_replicate, show (s.length + j) % 512 = 0 by omega]
   rfl
  | succ k ih =>
   intro j hj
   refine (CR ?_).trans (ih (j + 1) (by omega))
   unfold C8
   dsimp only
   rw [show (512 : Int) = ((512 : Nat) : Int) from rfl, Rz, show ((((s ++ List.replicate j (0 : UInt8)).length % 512 : Nat) : Int) != (0 : Int)) = true from by rw [bne_iff_ne, List.length_append, List.length_replicate]; omega, AU, decide_eq_true (by simp only [List.length_append, List.length_replicate, List.length_cons, List.length_nil]; omega), Af, List.append_assoc, ← List.replicate_succ']
 unfold Dw
 have := key ((512 - s.length % 512) % 512) 0 (by omega)
 rw [List.replicate_zero, List.append_nil] at this
 rw [this]
 rfl
theorem Vx (s : List UInt8) : (O0 s).length % 512 = 0 ∧ s.length ≤ (O0 s).length ∧ (O0 s).length < s.length + 512 := by
 unfold O0
 rw [List.length_append, List.length_replicate]
 omega
theorem join_eq {a b : List UInt8} (ha : a.length ≤ 1000000) (hb : b.length ≤ 1000000) : Dq ([a, b] : List (List UInt8)) = some (a ++ b) := by
 unfold Dq
 have s0 : CJ [a, b] (([] : List UInt8), (0 : Int)) = some (.inl (a, (1 : Int))) := by
  unfold CJ
  dsimp only
  rw [show decide ((0 : Int) < (([a, b] : List (List UInt8)).length : Int)) = true from rfl, AU, show Hj [a, b] (0 : Int) = some a from rfl, Option.bind_some, IB (by simp; omega) (by simp; omega), Af]
  rfl
 have s1 : CJ [a, b] (a, (1 : Int)) = some (.inl (a ++ b, (2 : Int))) := by
  unfold CJ
  dsimp only
  rw [show decide ((1 : Int) < (([a, b] : List (List UInt8)).length : Int)) = true from rfl, AU, show Hj [a, b] (1 : Int) = some b from rfl, Option.bind_some, IB (by omega) (by omega), Af]
  rfl
 have s2 : CJ [a, b] (a ++ b, (2 : Int)) = some (.inr (a ++ b)) := rfl
 rw [CR s0, CR s1, Cu s2]
 rfl
end Go.Av.L
