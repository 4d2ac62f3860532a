/-
 A part.
-/
import Derived.Test.YtlljeoogceblmaaGreatDoorWhD
namespace Go.Av.L
open Go.Av Go.Lib
set_option linter.unusedVariables false
set_option linter.unusedSimpArgs false
set_option maxRecDepth 10000
theorem decl (u : Nat) (h : u < 10000) : (decDigits u).length = if u < 10 then 1 else if u < 100 then 2 else if u < 1000 then 3 else 4 := by
 have h1 : ∀ v, v < 10 → (decDigits v).length = 1 := fun v hv => by rw [QY hv]; rfl
 have hs : ∀ v, ¬ v < 10 → (decDigits v).length = (decDigits (v / 10)).length + 1 := fun v hv => by rw [decDigits, dif_neg hv, List.length_append]; rfl
 split
 ·exact h1 u (by omega)
 ·rw [hs u (by omega)]
  split
  ·rw [h1 _ (by omega)]
  ·rw [hs _ (by omega)]
   split
   ·rw [h1 _ (by omega)]
   ·rw [hs _ (by omega), h1 _ (by omega)]
def bare (p : Pr) : Nat := p.Key.length + p.Value.length + 3
def Ot (p : Pr) : Nat := bare p + (decDigits (bare p + (decDigits (bare p)).length)).length
theorem Vf (p : Pr) (h : bare p ≤ 5000) : bare p + (decDigits (Ot p)).length = Ot p ∧ bare p < Ot p ∧ Ot p ≤ bare p + 4 ∧ ∀ x, bare p < x → x < Ot p → bare p + (decDigits x).length ≠ x := by
 have h3 : 3 ≤ bare p := by unfold bare; omega
 have e1 := decl (bare p) (by omega)
 have e2 := decl (bare p + (decDigits (bare p)).length) (by split at e1 <;> first | omega | (split at e1 <;> first | omega | (split at e1 <;> omega)))
 have hr : Ot p = bare p + (decDigits (bare p + (decDigits (bare p)).length)).length := rfl
 generalize (decDigits (bare p)).length = a at *
 generalize (decDigits (bare p + a)).length = b at *
 generalize bare p = n at *
 generalize Ot p = r at *
 have hb : b ≤ 4 ∧ 1 ≤ b := by split at e2 <;> first | omega | (split at e2 <;> first | omega | (split at e2 <;> omega))
 have key : ∀ x, x ≤ r → (decDigits x).length = if x < 10 then 1 else if x < 100 then 2 else if x < 1000 then 3 else 4 := fun x hx => decl x (by omega)
 have er := key r (Nat.le_refl _)
 refine ⟨?_, by omega, by omega, fun x h1 h2 => ?_⟩
 ·rw [er]
  repeat' split
  all_goals (repeat' split at e1)
  all_goals (repeat' split at e2)
  all_goals omega
 ·rw [key x (by omega)]
  repeat' split
  all_goals (repeat' split at e1)
  all_goals (repeat' split at e2)
  all_goals omega
theorem RW (p : Pr) (h : bare p ≤ 5000) : Es p = some (Ot p : Int) := by
 have h3 : (p.Key.length : Int) + (p.Value.length : Int) = ((p.Key.length + p.Value.length : Nat) : Int) := by omega
 have hb : ((p.Key.length + p.Value.length : Nat) : Int) + 3 = (bare p : Int) := by unfold bare; omega
 have hl : p.Key.length + p.Value.length ≤ 5000 := by unfold bare at h; omega
 have hd : ∀ v, v ≤ 5010 → (decDigits v).length ≤ 4 := fun v hv => Gr 4 v (by omega) (by rw [show 10 ^ 4 = 10000 from rfl]; omega)
 have hi : ∀ v : Nat, Lib.itoa (v : Int) = decDigits v := fun v => by rw [Hq (by omega), Int.toNat_natCast]
 have d1 := hd (bare p) (by omega)
 have d2 := hd (bare p + (decDigits (bare p)).length) (by omega)
 unfold Es
 rw [h3, GA (x := ((p.Key.length + p.Value.length : Nat) : Int)) (by omega) (by omega), hb, GA (x := (bare p : Int)) (by omega) (by omega), decide_eq_true (by omega), Ad, hi]
 rw [GA (x := (bare p : Int) + ((decDigits (bare p)).length : Int)) (by omega) (by omega), decide_eq_true (by omega), Ad, show (bare p : Int) + ((decDigits (bare p)).length : Int) = ((bare p + (decDigits (bare p)).length : Nat) : Int) by omega, hi, GA (by omega) (by omega)]
 congr 1
theorem Uc (p : Pr) (h : bare p ≤ 5000) : Dg p = some (Ot p : Int) := by
 obtain ⟨f1, f2, f3, f4⟩ := Vf p h
 have h3 : (p.Key.length : Int) + (p.Value.length : Int) = ((p.Key.length + p.Value.length : Nat) : Int) := by omega
 have hb : ((p.Key.length + p.Value.length : Nat) : Int) + 3 = (bare p : Int) := by unfold bare; omega
 have hl : p.Key.length + p.Value.length ≤ 5000 := by unfold bare at h; omega
 have key : ∀ (k x : Nat), x + k = Ot p → bare p < x → loop (Cq p) (x : Int) = some (.inr (Ot p : Int)) := by
  intro k
  have hd : ∀ x, x ≤ Ot p → (decDigits x).length ≤ 4 := fun v hv => Gr 4 v (by omega) (by rw [show 10 ^ 4 = 10000 from rfl]; omega)
  induction k with
  | zero =>
   intro x hx hlt
   obtain rfl : x = Ot p := by omega
   have := hd (Ot p) (Nat.le_refl _)
   refine D5 ?_
   unfold Cq
   dsimp only
   rw [h3, GA (x := ((p.Key.length + p.Value.length : Nat) : Int)) (by omega) (by omega), hb, GA (x := (bare p : Int)) (by omega) (by omega), GA (x := (bare p : Int) + 20) (by omega) (by omega), decide_eq_true (by omega), AU, Pa _ (by omega), Option.bind_some, GA (by omega) (by omega),
    show ((bare p : Int) + ((decDigits (Ot p)).length : Int) == (Ot p : Int)) = true from by rw [beq_iff_eq]; omega, AU]
  | succ k ih =>
   intro x hx hlt
   have := hd x (by omega)
   have hne := f4 x hlt (by omega)
   refine (DY ?_).trans (ih (x + 1) (by omega) (by omega))
   unfold Cq
   dsimp only
   rw [h3, GA (x := ((p.Key.length + p.Value.length : Nat) : Int)) (by omega) (by omega), hb, GA (x := (bare p : Int)) (by omega) (by omega), GA (x := (bare p : Int) + 20) (by omega) (by omega), decide_eq_true (by omega), AU, Pa _ (by omega), Option.bind_some, GA (x := (bare p : Int) + ((decDigits x).length : Int)) (by omega) (by omega),
    show ((bare p : Int) + ((decDigits x).length : Int) == (x : Int)) = false from by rw [beq_eq_false_iff_ne]; omega, AL, FY (by omega)]
 unfold Dg
 rw [h3, GA (x := ((p.Key.length + p.Value.length : Nat) : Int)) (by omega) (by omega), hb, GA (x := (bare p : Int)) (by omega) (by omega), FY (by omega), key (Ot p - (bare p + 1)) (bare p + 1) (by omega) (by omega)]
 rfl
theorem Yx : ∀ k : Fin 100, Ek ((k.val : Nat) : Int) = some (if k.val < 10 then [UInt8.ofNat (48 + k.val)] else [UInt8.ofNat (48 + k.val / 10), UInt8.ofNat (48 + k.val % 10)]) := by decide +kernel
theorem V1 {u : Nat} (h : u < 100) : Ek (u : Int) = some (decDigits u) := by
 rw [Yx ⟨u, h⟩]
 dsimp only
 split
 ·rename_i h1; rw [QY h1]
 ·rename_i h1; rw [Lib.decDigits_two h1 h]
theorem XB (u : Nat) : I5 (Lib.nDigits u) u = decDigits u := (Lib.decDigits_eq u).symm
theorem Xu (x : List UInt8) {u : Nat} (hu : u < 10000) (hx : x.length ≤ 100000) : CO x (u : Int) 10 = some (x ++ decDigits u) := by
 have hd := Gr 4 u (by omega) (by rw [show 10 ^ 4 = 10000 from rfl]; omega)
 have hw : IntKind.u64.wrap (u : Int) = (u : Int) := by rw [IntKind.wrap_u64]; omega
 unfold CO Cp
 rw [decide_eq_false (by omega), AL, hw, Option.bind_some]
 dsimp only
 unfold C2
 rw [show ((10 : Int) == 10) = true from rfl, AU]
 by_cases h : u < 100
 ·rw [decide_eq_true (by omega), AU, GA (by omega) (by omega), V1 h, Option.bind_some, H4 (by omega) (by omega), Ad]
  rfl
 ·have hl : (decDigits u).length = Lib.nDigits u := Lib.decDigits_length u
  have hn : Ue 24 ((Lib.nDigits u : Nat) : Int) = some (Lib.nDigits u) := by unfold Ue; rw [if_pos (by omega), Int.toNat_natCast]
  have hp := Lib.nDigits_pos u
  have hf : Pq (Lib.nDigits u) (u : Int) = true := by
   unfold Pq
   refine decide_eq_true ⟨by omega, by omega, by omega, by omega, ?_⟩
   rw [Int.toNat_natCast]
   exact Lib.lt_pow_nDigits u
  rw [decide_eq_false (by omega), AL, decide_eq_true (by omega), Ad, Int.toNat_natCast, hn, Option.bind_some, hf, Bool.true_and, decide_eq_true (by rw [List.length_replicate]; omega), Ad, Option.bind_some, XB, decide_eq_true (by rw [List.length_append]; omega), Ad, ← hl, List.take_left, H4 (by omega) (by omega), Ad]
  rfl
def SL (p : Pr) : List UInt8 := decDigits (Ot p) ++ ([32] ++ (p.Key ++ ([61] ++ (p.Value ++ [10]))))
def Gf (l : List Pr) : List UInt8 := (l.map SL).flatten
theorem Lm (l : List Pr) (p : Pr) : Gf (l ++ [p]) = Gf l ++ SL p := by unfold Gf; rw [List.map_append, List.flatten_append]; simp
structure M7 (p : Pr) : Prop where
 ne : p.Key ≠ []
 eq : (61 : UInt8) ∉ p.Key
 b : bare p ≤ 1500
theorem MO {p : Pr} (h : M7 p) : (SL p).length = Ot p ∧ Ot p ≤ 1504 := by
 obtain ⟨f1, f2, f3, f4⟩ := Vf p (by have := h.b; omega)
 have := h.b
 refine ⟨?_, by omega⟩
 rw [← f1]
 unfold SL bare
 simp only [List.length_append, List.length_cons, List.length_nil]
 omega
theorem Hc : ∀ {l : List Pr}, (∀ p ∈ l, M7 p) → (Gf l).length ≤ 1504 * l.length
 | [], _ => by simp [Gf]
 | p :: l, h => by
  have h1 := MO (h p (by simp))
  have h2 := Hc fun q hq => h q (List.mem_cons_of_mem _ hq)
  show (SL p ++ Gf l).length ≤ _
  rw [List.length_append, List.length_cons]
  omega
theorem Tq {p : Pr} (h : (61 : UInt8) ∉ p.Key) : idxOf p.Key 61 < 0 := by
 have := mt (Ku p.Key 61).1 h
 omega
theorem Uh {p : Pr} (h : M7 p) : E3 p = some true := by
 unfold E3
 rw [show (p.Key == ([] : List UInt8)) = false from beq_eq_false_iff_ne.2 h.ne, Bool.not_false, AU, show (61 : Int) = ((61 : UInt8).toNat : Int) from rfl, UA, Option.bind_some, decide_eq_true (Tq h.eq)]
 rfl
theorem RZ {p : Pr} (h : M7 p) : Bt p = some true := by
 have := h.b
 rw [OJ p (by unfold bare at this; omega), show (p.Key == ([] : List UInt8)) = false from beq_eq_false_iff_ne.2 h.ne, decide_eq_false (by have := Tq h.eq; omega)]
 rfl
theorem Vg {l : List Pr} (hl : l.length ≤ 20) (h : ∀ p ∈ l, M7 p) : EF l = some (Gf l, 0) := by
 have h0 : loop (DI l) ((0 : Int), (0 : Int)) = some (.inl ((Gf l).length : Int)) := by
  refine W.eq (W.list (l := l) (fun (s : Int) (i : Nat) => (s, (i : Int))) (fun s i => s = ((Gf (l.take i)).length : Int)) ?_ ?_ (0 : Int) (by simp [Gf]))
  ·intro s hs
   unfold DI
   dsimp only
   rw [decide_eq_false (by omega), AL]
   refine W.ret ?_
   rw [hs, List.take_length]
  ·intro s i hi hs
   have hr := h l[i] (List.getElem_mem hi)
   have hz := MO hr
   have hb := hr.b
   have ht := Hc (l := l.take i) fun p hp => h p (List.mem_of_mem_take hp)
   rw [List.length_take] at ht
   unfold DI
   dsimp only
   rw [decide_eq_true (by omega), AU, FI hi, Option.bind_some, Uh hr, Option.bind_some, Bool.not_true, AL, RW _ (by omega), Option.bind_some, FY (by omega)]
   refine W.ret ⟨_, rfl, ?_⟩
   rw [hs, JC (List.getElem?_eq_getElem hi), Lm, List.length_append, hz.1, GA (by omega) (by omega)]
   unfold mn
   split <;> omega
 have h1 : loop (DO l) (([] : List UInt8), (0 : Int)) = some (Gf l) := by
  refine W.eq (W.list (l := l) (fun (s : List UInt8) (i : Nat) => (s, (i : Int))) (fun s i => s = Gf (l.take i)) ?_ ?_ ([] : List UInt8) (by simp [Gf]))
  ·intro s hs
   unfold DO
   dsimp only
   rw [decide_eq_false (by omega), AL]
   refine W.ret ?_
   rw [hs, List.take_length]
  ·intro s i hi hs
   have hr := h l[i] (List.getElem_mem hi)
   have hz := MO hr
   have hb := hr.b
   have ht := Hc (l := l.take i) fun p hp => h p (List.mem_of_mem_take hp)
   rw [List.length_take, ← hs] at ht
   have hkl : l[i].Key.length + l[i].Value.length ≤ 1500 := by unfold bare at hb; omega
   have hdl := Gr 4 (Ot l[i]) (by omega) (by rw [show 10 ^ 4 = 10000 from rfl]; omega)
   unfold DO
   dsimp only
   rw [decide_eq_true (by omega), AU, FI hi, Option.bind_some, RW _ (by omega), Option.bind_some, Xu s (by omega) (by omega), Option.bind_some, decide_eq_true (by simp only [List.length_append, List.length_cons, List.length_nil]; omega), Ad, decide_eq_true (by simp only [List.length_append, List.length_cons, List.length_nil]; omega), Ad, decide_eq_true (by simp only [List.length_append, List.length_cons, List.length_nil]; omega), Ad, decide_eq_true (by simp only [List.length_append, List.length_cons, List.length_nil]; omega), Ad, H4 (by simp only [List.length_append, List.length_cons, List.length_nil]; omega) (by simp only [List.length_append, List.length_cons, List.length_nil]; omega), Ad, FY (by omega)]
   refine W.ret ⟨_, rfl, ?_⟩
   rw [hs, JC (List.getElem?_eq_getElem hi), Lm]
   unfold SL
   simp only [List.append_assoc]
 have hlen := Hc h
 unfold EF
 rw [decide_eq_false (by omega), AL, h0, Option.bind_some]
 dsimp only
 rw [decide_eq_false (by omega), AL, h1, Option.bind_some]
theorem UK {l : List Pr} (hl : l.length ≤ 20) (h : ∀ p ∈ l, M7 p) : CZ l = some (Gf l, 0) := by
 have h0 : loop (Bu l) (0 : Int) = some (.inl ()) := by
  refine W.eq (W.list (l := l) (fun (_ : Unit) (i : Nat) => (i : Int)) (fun _ _ => True) ?_ ?_ () trivial)
  ·intro s hs
   unfold Bu
   dsimp only
   rw [decide_eq_false (by omega), AL]
   exact W.ret rfl
  ·intro s i hi hs
   unfold Bu
   dsimp only
   rw [decide_eq_true (by omega), AU, FI hi, Option.bind_some, RZ (h l[i] (List.getElem_mem hi)), Option.bind_some, Bool.not_true, AL, FY (by omega)]
   exact W.ret ⟨(), rfl, trivial⟩
 have h1 : loop (Bv l) (([] : List UInt8), (0 : Int)) = some (.inl (Gf l)) := by
  refine W.eq (W.list (l := l) (fun (s : List UInt8) (i : Nat) => (s, (i : Int))) (fun s i => s = Gf (l.take i)) ?_ ?_ ([] : List UInt8) (by simp [Gf]))
  ·intro s hs
   unfold Bv
   dsimp only
   rw [decide_eq_false (by omega), AL]
   refine W.ret ?_
   rw [hs, List.take_length]
  ·intro s i hi hs
   have hr := h l[i] (List.getElem_mem hi)
   have hz := MO hr
   have hb := hr.b
   have ht := Hc (l := l.take i) fun p hp => h p (List.mem_of_mem_take hp)
   rw [List.length_take, ← hs] at ht
   have hkl : l[i].Key.length + l[i].Value.length ≤ 1500 := by unfold bare at hb; omega
   have hdl := Gr 4 (Ot l[i]) (by omega) (by rw [show 10 ^ 4 = 10000 from rfl]; omega)
   unfold Bv
   dsimp only
   rw [decide_eq_true (by omega), AU, FI hi, Option.bind_some, Option.bind_some, Option.bind_some, Uc _ (by omega), Option.bind_some, Pa _ (by omega), Option.bind_some, decide_eq_true (by simp only [List.length_append, List.length_cons, List.length_nil]; omega), Ad, decide_eq_true (by simp only [List.length_append, List.length_cons, List.length_nil]; omega), Ad, decide_eq_true (by simp only [List.length_append, List.length_cons, List.length_nil]; omega), Ad, decide_eq_true (by simp only [List.length_append, List.length_cons, List.length_nil]; omega), Ad, decide_eq_true (by simp only [List.length_append, List.length_cons, List.length_nil]; omega), Ad, decide_eq_true (by simp only [List.length_append, List.length_cons, List.length_nil]; omega), Ad, decide_eq_false (by simp only [List.length_append, List.length_cons, List.length_nil]; omega), AL, FY (by omega)]
   refine W.ret ⟨_, rfl, ?_⟩
   rw [hs, JC (List.getElem?_eq_getElem hi), Lm]
   unfold SL
   simp only [List.append_assoc]
 unfold CZ
 rw [decide_eq_false (by omega), AL, h0, Option.bind_some]
 dsimp only
 rw [h1, Option.bind_some]
def Ow (s : List UInt8) : List UInt8 := s ++ List.replicate ((512 - s.length % 512) % 512) 0
theorem Tf (k : Nat) : Lib.repeatL ([0] : List UInt8) k = List.replicate k 0 := by
 induction k with
 | zero => rfl
 | succ k ih => rw [List.replicate_succ, ← ih]; rfl
theorem Yy {s : List UInt8} (h : s.length ≤ 100000) : Hw s = some (Ow s) := by
 have e : Int.tmod (IntKind.i64.wrap ((512 : Int) - (Int.tmod (s.length : Int) (512 : Int)))) (512 : Int) = (((512 - s.length % 512) % 512 : Nat) : Int) := by
  rw [show (512 : Int) = ((512 : Nat) : Int) from rfl, NF]
  have := Nat.mod_lt s.length (show 0 < 512 by decide)
  generalize s.length % 512 = r at *
  rw [GA (by omega) (by omega), show ((512 : Nat) : Int) - (r : Int) = ((512 - r : Nat) : Int) by omega, NF]
 have hlt := Nat.mod_lt (512 - s.length % 512) (show 0 < 512 by decide)
 unfold Hw Fy
 rw [Option.bind_some, e, Int.toNat_natCast, Tf]
 unfold Ow
 generalize (512 - s.length % 512) % 512 = k at *
 rw [show OW ([0] : List UInt8) (k : Int) = true from decide_eq_true ⟨by omega, by omega, by simp; omega⟩, Ad, decide_eq_true (by rw [List.length_replicate]; omega), Ad]
theorem XK {s : List UInt8} (h : s.length ≤ 100000) : D7 s = some (Ow s) := by
 have key : ∀ (k j : Nat), j + k = (512 - s.length % 512) % 512 → loop C5 (s ++ List.replicate j 0) = some (Ow s) := by
  intro k
  induction k with
  | zero =>
   intro j hj
   refine D5 ?_
   unfold C5 Ow
   dsimp only
   rw [← hj, Nat.add_zero, show (512 : Int) = ((512 : Nat) : Int) from rfl, NF, List.length_append, List.length_replicate, show (s.length + j) % 512 = 0 by omega]
   rfl
  | succ k ih =>
   intro j hj
   refine (DY ?_).trans (ih (j + 1) (by omega))
   unfold C5
   dsimp only
   rw [show (512 : Int) = ((512 : Nat) : Int) from rfl, NF, show ((((s ++ List.replicate j (0 : UInt8)).length % 512 : Nat) : Int) != (0 : Int)) = true from by rw [bne_iff_ne, List.length_append, List.length_replicate]; omega, AU, decide_eq_true (by simp only [List.length_append, List.length_replicate, List.length_cons, List.length_nil]; omega), Ad, List.append_assoc, ← List.replicate_succ']
 unfold D7
 have := key ((512 - s.length % 512) % 512) 0 (by omega)
 rw [List.replicate_zero, List.append_nil] at this
 rw [this]
 rfl
theorem Vw (s : List UInt8) : (Ow s).length % 512 = 0 ∧ s.length ≤ (Ow s).length ∧ (Ow s).length < s.length + 512 := by
 unfold Ow
 rw [List.length_append, List.length_replicate]
 omega
theorem join_eq {a b : List UInt8} (ha : a.length ≤ 1000000) (hb : b.length ≤ 1000000) : Dr ([a, b] : List (List UInt8)) = some (a ++ b) := by
 unfold Dr
 have s0 : CD [a, b] (([] : List UInt8), (0 : Int)) = some (.inl (a, (1 : Int))) := by
  unfold CD
  dsimp only
  rw [show decide ((0 : Int) < (([a, b] : List (List UInt8)).length : Int)) = true from rfl, AU, show HJ [a, b] (0 : Int) = some a from rfl, Option.bind_some, H4 (by simp; omega) (by simp; omega), Ad]
  rfl
 have s1 : CD [a, b] (a, (1 : Int)) = some (.inl (a ++ b, (2 : Int))) := by
  unfold CD
  dsimp only
  rw [show decide ((1 : Int) < (([a, b] : List (List UInt8)).length : Int)) = true from rfl, AU, show HJ [a, b] (1 : Int) = some b from rfl, Option.bind_some, H4 (by omega) (by omega), Ad]
  rfl
 have s2 : CD [a, b] (a ++ b, (2 : Int)) = some (.inr (a ++ b)) := rfl
 rw [DY s0, DY s1, D5 s2]
 rfl
end Go.Av.L
