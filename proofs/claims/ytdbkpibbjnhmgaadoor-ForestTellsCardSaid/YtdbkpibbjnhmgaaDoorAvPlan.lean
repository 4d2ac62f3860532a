/-
 A part.
-/
import Derived.Test.YtdbkpibbjnhmgaaDoorAvStep
namespace Go.Av
open Go.RowKit
def Nh (acc : List Nat) (o : Oper) : Nat := o.after.toList.foldl (fun s e => if Region.binds .any e then s ||| 2 ^ e.on ||| acc.getD e.on 0 else s) 0
def closure : List Oper → List Nat → List Nat
 | [], acc => acc
 | o :: os, acc => closure os (acc ++ [Nh acc o])
theorem LI (acc : List Nat) (j : Nat) : ∀ (l : List Edge) (s : Nat), (l.foldl (fun s e => if Region.binds .any e then s ||| 2 ^ e.on ||| acc.getD e.on 0 else s) s).testBit j = true ↔
  s.testBit j = true ∨ ∃ e ∈ l, Region.binds .any e = true ∧ (j = e.on ∨ (acc.getD e.on 0).testBit j = true)
 | [], s => by simp
 | e :: l, s => by
  rw [List.foldl_cons, LI acc j l]
  by_cases hb : Region.binds .any e = true
  ·simp only [hb, if_true, Nat.testBit_or, Bool.or_eq_true, Nat.testBit_two_pow, decide_eq_true_eq, List.mem_cons, exists_eq_or_imp, true_and]
   constructor
   ·rintro ((((h | h) | h)) | h)
    ·exact .inl h
    ·exact .inr (.inl (.inl h.symm))
    ·exact .inr (.inl (.inr h))
    ·exact .inr (.inr h)
   ·rintro (h | (h | h) | h)
    ·exact .inl (.inl (.inl h))
    ·exact .inl (.inl (.inr h.symm))
    ·exact .inl (.inr h)
    ·exact .inr h
  ·simp only [hb, Bool.false_eq_true, if_false, List.mem_cons, exists_eq_or_imp, false_and, false_or]
theorem GB : ∀ (l : List Oper) (acc : List Nat) (i : Nat), i < acc.length → (closure l acc)[i]? = acc[i]?
 | [], acc, i, _ => rfl
 | o :: l, acc, i, h => by rw [closure, GB l _ i (by simp; omega), List.getElem?_append_left h]
theorem G2 : ∀ (l : List Oper) (acc : List Nat) (k : Nat) (o : Oper) (j : Nat), l[k]? = some o →
  ((((closure l acc).getD (acc.length + k) 0).testBit j = true ↔ ∃ e ∈ o.after.toList, Region.binds .any e = true ∧ (j = e.on ∨ (e.on < acc.length + k ∧ ((closure l acc).getD e.on 0).testBit j = true))))
 | [], acc, k, o, j, h => by simp at h
 | o' :: l, acc, 0, o, j, h => by
  simp only [List.getElem?_cons_zero, Option.some.injEq] at h
  subst h
  have e1 : (closure (o' :: l) acc).getD (acc.length + 0) 0 = Nh acc o' := by
   rw [List.getD_eq_getElem?_getD, closure, GB l _ _ (by simp), List.getElem?_append_right (by omega)]
   simp
  rw [e1, Nh, LI]
  simp only [Nat.zero_testBit, Bool.false_eq_true, false_or]
  constructor
  ·rintro ⟨e, he, hb, h | h⟩
   ·exact ⟨e, he, hb, .inl h⟩
   ·refine ⟨e, he, hb, .inr ?_⟩
    by_cases hlt : e.on < acc.length
    ·refine ⟨by omega, ?_⟩
     rw [List.getD_eq_getElem?_getD, closure, GB l _ _ (by simp; omega), List.getElem?_append_left hlt]
     simpa [List.getD_eq_getElem?_getD] using h
    ·rw [List.getD_eq_getElem?_getD, List.getElem?_eq_none (by omega)] at h
     simp at h
  ·rintro ⟨e, he, hb, h | ⟨hlt, h⟩⟩
   ·exact ⟨e, he, hb, .inl h⟩
   ·refine ⟨e, he, hb, .inr ?_⟩
    rw [List.getD_eq_getElem?_getD, closure, GB l _ _ (by simp; omega), List.getElem?_append_left (by omega)] at h
    simpa [List.getD_eq_getElem?_getD] using h
 | o' :: l, acc, k + 1, o, j, h => by
  have ih := G2 l (acc ++ [Nh acc o']) k o j (by simpa using h)
  simp only [List.length_append, List.length_cons, List.length_nil] at ih
  rw [show acc.length + (k + 1) = acc.length + (0 + 1) + k by omega]
  exact ih
def dep (cl : List Nat) (i j : Nat) : Bool := (cl.getD j 0).testBit i
def Jx (ops : Array Oper) (cl : List Nat) (i : Nat) : Bool :=
 match ops[i]? with
 | some o => (List.range ops.size).all fun j =>
   match ops[j]? with
   | some p =>
    match p.dst with
    | some t => (Nat.beq j i || !(o.dst == some t)) && (!(o.looksAt ops).contains t || (!Nat.beq j i && dep cl j i))
    | none => true
   | none => true
 | none => false
def J9 (P : Program) (ops : Array Oper) (cl : List Nat) (x y : Nat × List Nat) : Bool :=
  (x.1 != y.1) && !dep cl y.1 x.1 &&
  (dep cl x.1 y.1 ||
    (match ops[x.1]?, ops[y.1]? with
     | some a, some b => a.apart ops b && (AZ P b.op == 0 || AZ P a.op == 0 || (AZ P a.op != 3 && (AZ P b.op != 3 || y.2.any (Nat.beq x.1) || (AZ P a.op == 1 && (y.2.any (Nat.beq (x.1 + 10000)) && Jx ops cl x.1)))))
     | _, _ => false))
def K5 (P : Program) (ops : Array Oper) (cl : List Nat) : List (Nat × List Nat) → Bool
 | [] => true
 | x :: l => l.all (fun y => J9 P ops cl x y) && K5 P ops cl l
def LB : List Oper → Nat → Bool
 | [], _ => true
 | o :: l, i => o.after.toList.all (fun e => !Region.binds .any e || Nat.blt e.on i) && LB l (i + 1)
theorem LJ : ∀ {l : List Oper} {i : Nat}, LB l i = true → ∀ {k : Nat} {o : Oper} {e : Edge}, l[k]? = some o → e ∈ o.after.toList → Region.binds .any e = true → e.on < i + k
 | [], _, _, k, o, e, hk, _, _ => by simp at hk
 | o' :: l, i, h, k, o, e, hk, he, hb => by
  simp only [LB, Bool.and_eq_true] at h
  cases k with
  | zero =>
   simp only [List.getElem?_cons_zero, Option.some.injEq] at hk
   subst hk
   have := List.all_eq_true.1 h.1 e he
   rw [hb] at this
   simp only [Bool.not_true, Bool.false_or, Nat.blt_eq] at this
   omega
  | succ k =>
   have := LJ h.2 (k := k) (by simpa using hk) he hb
   omega
def Lf (P : Program) (ops : Array Oper) (pl : List (Nat × List Nat)) : Bool :=
 let cl := closure ops.toList []
 LB ops.toList 0 && pl.all (fun x => Nat.blt x.1 ops.size) && (List.range ops.size).all (fun i => pl.any fun x => Nat.beq x.1 i) && K5 P ops cl pl
theorem LH {P : Program} {ops : Array Oper} {cl : List Nat} : ∀ {pl : List (Nat × List Nat)}, K5 P ops cl pl = true → ∀ {p q : Nat} {x y : Nat × List Nat}, p < q → pl[p]? = some x → pl[q]? = some y → J9 P ops cl x y = true
 | [], _, p, q, x, y, _, hx, _ => by simp at hx
 | z :: l, h, p, q, x, y, hpq, hx, hy => by
  simp only [K5, Bool.and_eq_true] at h
  cases q with
  | zero => omega
  | succ q =>
   have hy' : l[q]? = some y := by simpa using hy
   cases p with
   | zero =>
    simp only [List.getElem?_cons_zero, Option.some.injEq] at hx
    subst hx
    exact List.all_eq_true.1 h.1 y (List.mem_of_getElem? hy')
   | succ p => exact LH h.2 (p := p) (q := q) (by omega) (by simpa using hx) hy'
section
variable {C : EP} {S : Self}
structure Ir (C : EP) (S : Self) (g : Gd) (ops : Array Oper) (pl : List (Nat × List Nat)) (F : Nat → Fr) (H : Nat → AB) (T : Nat → List (Nat × Nat)) : Prop where
  step : ∀ p x, pl[p]? = some x → ∃ o, ops[x.1]? = some o ∧
    ((Bv ops (F p) o = some false ∧ F (p + 1) = put (F p) o.dst (.tuple []) ∧ H (p + 1) = H p ∧ T (p + 1) = T p) ∨
     (Bv ops (F p) o = some true ∧ ∃ v, Aw C S ⟨g.floor, FC (T p) x.2 ++ g.Bg⟩ (H p) (F p) o.op = some (v, H (p + 1)) ∧ F (p + 1) = put (F p) o.dst v ∧ T (p + 1) = EC C.P (H p) (F p) x.1 o.op (T p) ∧ Ko C ops x.2 (F (p + 1)) (H (p + 1)) = true))
theorem Hq {g : Gd} {ops : Array Oper} : ∀ (pl : List (Nat × List Nat)) (t : List (Nat × Nat)) (fr : Fr) (h : AB) (fr' : Fr) (h' : AB), Bt C S g ops pl t fr h = some (fr', h') →
    ∃ F H T, Ir C S g ops pl F H T ∧ F 0 = fr ∧ H 0 = h ∧ T 0 = t ∧ F pl.length = fr' ∧ H pl.length = h'
  | [], t, fr, h, fr', h', hr => by
    simp only [Bt, Option.some.injEq, Prod.mk.injEq] at hr
    obtain ⟨rfl, rfl⟩ := hr
    exact ⟨fun _ => fr, fun _ => h, fun _ => t, ⟨fun p x hx => by simp at hx⟩, rfl, rfl, rfl, rfl, rfl⟩
  | (i, U) :: pl, t, fr, h, fr', h', hr => by
    unfold Bt at hr
    split at hr
    · cases hr
    · rename_i o ho
      have glue : ∀ (fr1 : Fr) (h1 : AB) (t1 : List (Nat × Nat)), Bt C S g ops pl t1 fr1 h1 = some (fr', h') →
          ((Bv ops fr o = some false ∧ fr1 = put fr o.dst (.tuple []) ∧ h1 = h ∧ t1 = t) ∨
           (Bv ops fr o = some true ∧ ∃ v, Aw C S ⟨g.floor, FC t U ++ g.Bg⟩ h fr o.op = some (v, h1) ∧ fr1 = put fr o.dst v ∧ t1 = EC C.P h fr i o.op t ∧ Ko C ops U fr1 h1 = true)) →
          ∃ F H T, Ir C S g ops ((i, U) :: pl) F H T ∧ F 0 = fr ∧ H 0 = h ∧ T 0 = t ∧ F ((i, U) :: pl).length = fr' ∧ H ((i, U) :: pl).length = h' := by
        intro fr1 h1 t1 hrest hst
        obtain ⟨F, H, T, hrun, rfl, rfl, rfl, hF, hH⟩ := Hq pl t1 fr1 h1 fr' h' hrest
        refine ⟨fun | 0 => fr | p + 1 => F p, fun | 0 => h | p + 1 => H p, fun | 0 => t | p + 1 => T p, ⟨fun p x hx => ?_⟩, rfl, rfl, rfl, by simpa using hF, by simpa using hH⟩
        cases p with
        | zero =>
          simp only [List.getElem?_cons_zero, Option.some.injEq] at hx
          subst hx
          exact ⟨o, ho, hst⟩
        | succ p => exact hrun.step p x (by simpa using hx)
      split at hr
      · rename_i hw
        split at hr
        · rename_i v h1 hs
          cases hre : Ko C ops U (put fr o.dst v) h1 with
          | false => rw [hre] at hr; cases hr
          | true =>
            rw [hre] at hr
            exact glue _ _ _ hr (.inr ⟨hw, v, hs, rfl, rfl, hre⟩)
        · cases hr
      · rename_i hw
        exact glue _ _ _ hr (.inl ⟨hw, rfl, rfl, rfl⟩)
      · cases hr
end
def Ae (pl : List (Nat × List Nat)) (p : Nat) : Nat := (pl.getD p (0, [])).1
def Hp (pl : List (Nat × List Nat)) (p : Nat) : List Nat := (pl.getD p (0, [])).2
def Am (ops : Array Oper) (pl : List (Nat × List Nat)) (p : Nat) : Oper := ops.getD (Ae pl p) default
structure JM (P : Program) (ops : Array Oper) (pl : List (Nat × List Nat)) : Prop where
 lt : ∀ p, p < pl.length → ops[Ae pl p]? = some (Am ops pl p)
 Xj : ∀ i, i < ops.size → ∃ p, p < pl.length ∧ Ae pl p = i
 XY : ∀ p, p < pl.length → ∀ e ∈ (Am ops pl p).after.toList, Region.binds .any e = true → e.on < Ae pl p
 ne : ∀ p q, p < q → q < pl.length → Ae pl p ≠ Ae pl q
 Uj : ∀ p q, p < q → q < pl.length → dep (closure ops.toList []) (Ae pl q) (Ae pl p) = false
 pair : ∀ p q, p < q → q < pl.length → dep (closure ops.toList []) (Ae pl p) (Ae pl q) = true ∨
  ((Am ops pl p).apart ops (Am ops pl q) = true ∧ (AZ P (Am ops pl q).op = 0 ∨ AZ P (Am ops pl p).op = 0 ∨
   (AZ P (Am ops pl p).op ≠ 3 ∧ (AZ P (Am ops pl q).op ≠ 3 ∨ (Hp pl q).any (Nat.beq (Ae pl p)) = true ∨
    (AZ P (Am ops pl p).op = 1 ∧ (Hp pl q).any (Nat.beq (Ae pl p + 10000)) = true ∧ Jx ops (closure ops.toList []) (Ae pl p) = true)))))
theorem Q5 {P : Program} {ops : Array Oper} {pl : List (Nat × List Nat)} (h : Lf P ops pl = true) : JM P ops pl := by
 simp only [Lf, Bool.and_eq_true] at h
 obtain ⟨⟨⟨h0, h1⟩, h2⟩, h3⟩ := h
 have get : ∀ p, p < pl.length → pl[p]? = some (Ae pl p, Hp pl p) := fun p hp => by
  simp [Ae, Hp, List.getD_eq_getElem?_getD, List.getElem?_eq_getElem hp]
 have lt : ∀ p, p < pl.length → Ae pl p < ops.size := fun p hp => by
  have := List.all_eq_true.1 h1 _ (List.mem_of_getElem? (get p hp))
  rw [Nat.blt_eq] at this
  exact this
 have lt' : ∀ p, p < pl.length → ops[Ae pl p]? = some (Am ops pl p) := fun p hp => by
  have := lt p hp
  simp [Am, Array.getD_eq_getD_getElem?, this]
 have pk : ∀ p q, p < q → q < pl.length → J9 P ops (closure ops.toList []) (Ae pl p, Hp pl p) (Ae pl q, Hp pl q) = true := fun p q hpq hq =>
  LH h3 hpq (get p (by omega)) (get q hq)
 refine ⟨lt', fun i hi => ?_, fun p hp e he hb => ?_, fun p q hpq hq => ?_, fun p q hpq hq => ?_, fun p q hpq hq => ?_⟩
 ·have := List.all_eq_true.1 h2 i (by simpa using hi)
  obtain ⟨x, hx, hxi⟩ := List.any_eq_true.1 this
  obtain ⟨p, hp, rfl⟩ := List.mem_iff_getElem.1 hx
  refine ⟨p, hp, ?_⟩
  rw [← Nat.eq_of_beq_eq_true hxi]
  simp [Ae, List.getD_eq_getElem?_getD, List.getElem?_eq_getElem hp]
 ·have := LJ h0 (k := Ae pl p) (by simpa using lt' p hp) he hb
  omega
 ·have := pk p q hpq hq
  simp only [J9, Bool.and_eq_true, bne_iff_ne] at this
  exact this.1.1
 ·have := pk p q hpq hq
  simp only [J9, Bool.and_eq_true, Bool.not_eq_true'] at this
  exact this.1.2
 ·have := pk p q hpq hq
  simp only [J9, Bool.and_eq_true, Bool.or_eq_true] at this
  rcases this.2 with hd | hd
  ·exact .inl hd
  ·right
   rw [lt' p (by omega), lt' q hq] at hd
   simp only [Bool.and_eq_true, Bool.or_eq_true, beq_iff_eq, bne_iff_ne] at hd
   refine ⟨hd.1, ?_⟩
   rcases hd.2 with (a | a) | ⟨a, b⟩
   ·exact .inl a
   ·exact .inr (.inl a)
   ·refine .inr (.inr ⟨a, ?_⟩)
    rcases b with (b | b) | ⟨b, c, d⟩
    ·exact .inl b
    ·exact .inr (.inl b)
    ·exact .inr (.inr ⟨b, c, d⟩)
def FL (f : Nat → Bool) : Nat → Nat → Nat
 | s, 0 => s
 | s, k + 1 => if f s = true then s else FL f (s + 1) k
theorem C4 (f : Nat → Bool) : ∀ (k s : Nat), s ≤ FL f s k ∧ FL f s k ≤ s + k ∧ (∀ p, s ≤ p → p < FL f s k → f p = false) ∧ (FL f s k < s + k → f (FL f s k) = true)
 | 0, s => ⟨Nat.le_refl _, Nat.le_refl _, fun p h1 h2 => by simp [FL] at h2; omega, fun h => by simp [FL] at h⟩
 | k + 1, s => by
  unfold FL
  by_cases hf : f s = true
  ·rw [if_pos hf]; exact ⟨Nat.le_refl _, by omega, fun p h1 h2 => by omega, fun _ => hf⟩
  ·rw [if_neg hf]
   obtain ⟨a, b, c, d⟩ := C4 f k (s + 1)
   refine ⟨by omega, by omega, fun p h1 h2 => ?_, fun h => d (by omega)⟩
   by_cases e : p = s
   ·subst e; simpa using hf
   ·exact c p (by omega) h2
theorem Jm (f : Nat → Bool) {n r : Nat} (hr : r ≤ n) (h1 : ∀ p, p < r → f p = false) (h2 : r < n → f r = true) : FL f 0 n = r := by
 obtain ⟨a, b, c, d⟩ := C4 f n 0
 rcases Nat.lt_trichotomy (FL f 0 n) r with h | h | h
 ·have := h1 _ h
  rw [d (by omega)] at this
  cases this
 ·exact h
 ·have := c r (by omega) h
  rw [h2 (by omega)] at this
  cases this
section
variable {C : EP} {S : Self} {g : Gd} {ops : Array Oper} {pl : List (Nat × List Nat)} {F : Nat → Fr} {H : Nat → AB} {T : Nat → List (Nat × Nat)}
theorem Ir.at_ (hrun : Ir C S g ops pl F H T) (hp : JM C.P ops pl) {p : Nat} (h : p < pl.length) :
  (Bv ops (F p) (Am ops pl p) = some false ∧ F (p + 1) = put (F p) (Am ops pl p).dst (.tuple []) ∧ H (p + 1) = H p ∧ T (p + 1) = T p) ∨
  (Bv ops (F p) (Am ops pl p) = some true ∧ ∃ v, Aw C S ⟨g.floor, FC (T p) (Hp pl p) ++ g.Bg⟩ (H p) (F p) (Am ops pl p).op = some (v, H (p + 1)) ∧ F (p + 1) = put (F p) (Am ops pl p).dst v ∧
   T (p + 1) = EC C.P (H p) (F p) (Ae pl p) (Am ops pl p).op (T p) ∧ Ko C ops (Hp pl p) (F (p + 1)) (H (p + 1)) = true) := by
 have hx : pl[p]? = some (Ae pl p, Hp pl p) := by simp [Ae, Hp, List.getD_eq_getElem?_getD, List.getElem?_eq_getElem h]
 obtain ⟨o, ho, hst⟩ := hrun.step p _ hx
 rw [hp.lt p h] at ho
 injection ho with ho
 subst ho
 exact hst
theorem Ir.len (hrun : Ir C S g ops pl F H T) (hp : JM C.P ops pl) : ∀ p, p ≤ pl.length → (F p).length = (F 0).length
 | 0, _ => rfl
 | p + 1, h => by
  rw [← Ir.len hrun hp p (by omega)]
  rcases hrun.at_ hp (p := p) (by omega) with ⟨_, hF, _⟩ | ⟨_, v, _, hF, _⟩ <;> rw [hF] <;> simp
theorem LY (fr : Fr) {d : Option Tmp} {t : Nat} (v : AA) (h : d ≠ some t) : nth (put fr d v) t = nth fr t := by
 cases d with
 | none => rfl
 | some d =>
  simp only [put]
  rw [Bu, if_neg (by rintro ⟨rfl, _⟩; exact h rfl)]
theorem Ir.slot (hrun : Ir C S g ops pl F H T) (hp : JM C.P ops pl) {t p : Nat} : ∀ q, p ≤ q → q ≤ pl.length → (∀ x, p ≤ x → x < q → (Am ops pl x).dst ≠ some t) → nth (F q) t = nth (F p) t
 | 0, h1, _, _ => by rw [show p = 0 by omega]
 | q + 1, h1, h2, h3 => by
  by_cases e : p = q + 1
  ·rw [e]
  ·rw [← Ir.slot hrun hp q (by omega) (by omega) (fun x a b => h3 x a (by omega))]
   have hne := h3 q (by omega) (by omega)
   rcases hrun.at_ hp (p := q) (by omega) with ⟨_, hF, _⟩ | ⟨_, v, _, hF, _⟩ <;> rw [hF, LY _ _ hne]
theorem Ir.keeps (hrun : Ir C S g ops pl F H T) (hp : JM C.P ops pl) (hS : Fe C.P C.CM S) {p : Nat} (h : p < pl.length) : AN ⟨g.floor, FC (T p) (Hp pl p) ++ g.Bg⟩ (H p) (H (p + 1)) := by
 rcases hrun.at_ hp h with ⟨_, _, hH, _⟩ | ⟨_, v, hs, _, _⟩
 ·rw [hH]; exact AN.refl _ _
 ·exact GD hS hs
theorem Ir.size (hrun : Ir C S g ops pl F H T) (hp : JM C.P ops pl) (hS : Fe C.P C.CM S) {p : Nat} : ∀ q, p ≤ q → q ≤ pl.length → (H p).size ≤ (H q).size
 | 0, h1, _ => by rw [show p = 0 by omega]; exact Nat.le_refl _
 | q + 1, h1, h2 => by
  by_cases e : p = q + 1
  ·rw [e]; exact Nat.le_refl _
  ·exact Nat.le_trans (Ir.size hrun hp hS q (by omega) (by omega)) (hrun.keeps hp hS (p := q) (by omega)).1
theorem OV {g : Gd} {t : List (Nat × Nat)} {U : List Nat} {i id : Nat} (h1 : (i, id) ∈ t) (h2 : U.any (Nat.beq i) = true) : (⟨g.floor, FC t U ++ g.Bg⟩ : Gd).may id = false := by
 have : (FC t U ++ g.Bg).any (Nat.beq id) = true := by
  refine List.any_eq_true.2 ⟨id, List.mem_append.2 (.inl (List.mem_filterMap.2 ⟨(i, id), h1, ?_⟩)), Nat.beq_refl id⟩
  simp [h2]
 simp [Gd.may, this]
theorem Pg {g : Gd} {l : List Nat} (id : Nat) (h : g.may id = false) : (⟨g.floor, l ++ g.Bg⟩ : Gd).may id = false := by
 simp only [Gd.may, Bool.and_eq_false_iff, Bool.not_eq_false'] at h ⊢
 rcases h with h | h
 ·exact .inl h
 ·right; simp [List.any_append, h]
theorem Ir.told (hrun : Ir C S g ops pl F H T) (hp : JM C.P ops pl) {p : Nat} {x : Nat × Nat} (hx : x ∈ T p) : ∀ q, p ≤ q → q ≤ pl.length → x ∈ T q
 | 0, h1, _ => by rw [show 0 = p by omega]; exact hx
 | q + 1, h1, h2 => by
  by_cases e : p = q + 1
  ·rw [← e]; exact hx
  ·have ih := Ir.told hrun hp hx q (by omega) (by omega)
   rcases hrun.at_ hp (p := q) (by omega) with ⟨_, _, _, hT⟩ | ⟨_, v, _, _, hT, _⟩
   ·rw [hT]; exact ih
   ·rw [hT]
    unfold EC
    split
    ·split
     ·exact List.mem_cons_of_mem _ ih
     ·exact ih
    ·exact List.mem_cons_of_mem _ ih
    ·exact ih
theorem Ir.same (hrun : Ir C S g ops pl F H T) (hp : JM C.P ops pl) (hS : Fe C.P C.CM S) {p i id : Nat} (hx : (i, id) ∈ T p) (hid : id < (H p).size) :
  ∀ q, p ≤ q → q ≤ pl.length → (∀ x, p ≤ x → x < q → AZ C.P (Am ops pl x).op = 3 → (Hp pl x).any (Nat.beq i) = true) → (H q).get id = (H p).get id
 | 0, h1, _, _ => by rw [show p = 0 by omega]
 | q + 1, h1, h2, h3 => by
  by_cases e : p = q + 1
  ·rw [e]
  ·rw [← Ir.same hrun hp hS hx hid q (by omega) (by omega) (fun x a b => h3 x a (by omega))]
   have hidq : id < (H q).size := Nat.lt_of_lt_of_le hid (hrun.size hp hS q (by omega) (by omega))
   by_cases hc : AZ C.P (Am ops pl q).op = 3
   ·exact (hrun.keeps hp hS (p := q) (by omega)).2 id hidq (OV (hrun.told hp hx q (by omega) (by omega)) (h3 q (by omega) (by omega) hc))
   ·rcases hrun.at_ hp (p := q) (by omega) with ⟨_, _, hH, _⟩ | ⟨_, v, hs, _, _⟩
    ·rw [hH]
    ·rw [En hc] at hs
     unfold GA at hs
     split at hs
     ·simp only [Option.map_eq_some_iff, Prod.mk.injEq] at hs; obtain ⟨_, _, _, e⟩ := hs; rw [← e]
     ·split at hs
      ·simp only [Option.map_eq_some_iff, Prod.mk.injEq] at hs; obtain ⟨_, _, _, e⟩ := hs; rw [← e]
      ·split at hs
       ·simp only [Option.map_eq_some_iff, Prod.mk.injEq] at hs; obtain ⟨_, _, _, e⟩ := hs; rw [← e]
       ·cases hs
     ·simp only [Option.map_eq_some_iff, Prod.mk.injEq] at hs; obtain ⟨_, _, _, e⟩ := hs; rw [← e]; exact AB.CF _ _ hidq
     ·rename_i h0 h1 h2
      exfalso
      have : ∀ op, AZ C.P op = 0 ∨ AZ C.P op = 1 ∨ AZ C.P op = 2 ∨ AZ C.P op = 3 := by
       intro op
       exact Gq op
      rcases this (Am ops pl q).op with h | h | h | h
      ·exact h0 h
      ·exact h1 h
      ·exact h2 h
      ·exact hc h
theorem TB {v x : AA} (h : TX v x = true) : v = x := by
 unfold TX at h
 split at h
 ·simp only [Bool.and_eq_true] at h; rw [Nat.eq_of_beq_eq_true h.1, Nat.eq_of_beq_eq_true h.2]
 ·simp only [Bool.and_eq_true, decide_eq_true_eq] at h; rw [h.1, h.2]
 ·simp only [beq_iff_eq] at h; rw [h]
 ·simp only [decide_eq_true_eq] at h; rw [h]
 ·rfl
 ·cases h
theorem Ir.reads (hrun : Ir C S g ops pl F H T) (hp : JM C.P ops pl) (hS : Fe C.P C.CM S) {p id : Nat} {ob : A9} {x : AA} (hpn : p < pl.length) (hw : Bv ops (F p) (Am ops pl p) = some true)
  (ht : CJ (F p) (Am ops pl p).op = some id) (hg : (H (p + 1)).get id = some ob) (hx : HB C.P C.CM (F p) (some ob) (Am ops pl p).op = some x) (hF : F (p + 1) = put (F p) (Am ops pl p).dst x) (hmem : (Ae pl p, id) ∈ T (p + 1)) :
  ∀ q, p + 1 ≤ q → q ≤ pl.length → (∀ y, p < y → y < q → AZ C.P (Am ops pl y).op = 3 → (Hp pl y).any (Nat.beq (Ae pl p)) = true ∨ ((Hp pl y).any (Nat.beq (Ae pl p + 10000)) = true ∧ Jx ops (closure ops.toList []) (Ae pl p) = true)) →
   ∃ ob', (H q).get id = some ob' ∧ HB C.P C.CM (F p) (some ob') (Am ops pl p).op = some x
 | 0, h1, _, _ => by omega
 | q + 1, h1, h2, h3 => by
  by_cases e : p = q
  ·subst e; exact ⟨ob, hg, hx⟩
  ·obtain ⟨ob', g1, g2⟩ := Ir.reads hrun hp hS hpn hw ht hg hx hF hmem q (by omega) (by omega) (fun y a b => h3 y a (by omega))
   have hidq := (H q).An g1
   have FY : (H (q + 1)).get id = (H q).get id → ∃ ob', (H (q + 1)).get id = some ob' ∧ HB C.P C.CM (F p) (some ob') (Am ops pl p).op = some x := fun e => ⟨ob', by rw [e]; exact g1, g2⟩
   by_cases hc : AZ C.P (Am ops pl q).op = 3
   ·rcases h3 q (by omega) (by omega) hc with hu | ⟨hu, hsl⟩
    ·exact FY ((hrun.keeps hp hS (p := q) (by omega)).2 id hidq (OV (hrun.told hp hmem q (by omega) (by omega)) hu))
    ·rcases hrun.at_ hp (p := q) (by omega) with ⟨_, _, hH, _⟩ | ⟨_, v, hs, hFq, _, hre⟩
     ·rw [hH]; exact ⟨ob', g1, g2⟩
     ·unfold Ko at hre
      obtain ⟨u, hum, hue⟩ := List.any_eq_true.1 hu
      have hue := Nat.eq_of_beq_eq_true hue
      have h5 := List.all_eq_true.1 hre u hum
      have hbl : Nat.blt u 10000 = false := by rw [← Bool.not_eq_true, Nat.blt_eq]; omega
      rw [hbl, Bool.false_or, show u - 10000 = Ae pl p by omega] at h5
      unfold Ui at h5
      unfold Jx at hsl
      rw [hp.lt p hpn] at h5 hsl
      simp only at h5 hsl
      have noW : ∀ y, p < y → y ≤ q → ∀ t, (Am ops pl y).dst = some t → (Am ops pl p).dst ≠ some t ∧ t ∉ (Am ops pl p).looksAt ops := by
       intro y a b t hd
       have hyn : y < pl.length := by omega
       have hly := hp.lt y hyn
       have h6 := List.all_eq_true.1 hsl (Ae pl y) (by simpa using (Array.getElem?_eq_some_iff.1 hly).1)
       rw [hly] at h6
       simp only [hd, Bool.and_eq_true, Bool.or_eq_true, Bool.not_eq_true'] at h6
       refine ⟨fun e => ?_, fun hm => ?_⟩
       ·rcases h6.1 with h | h
        ·exact hp.ne p y a hyn (Nat.eq_of_beq_eq_true h).symm
        ·rw [e] at h; simp at h
       ·rcases h6.2 with h | h
        ·have : ((Am ops pl p).looksAt ops).contains t = true := by simpa using hm
         rw [this] at h; cases h
        ·rw [hp.Uj p y a hyn] at h; exact absurd h.2 (by simp)
      have sameL : ∀ t ∈ (Am ops pl p).looksAt ops, (Am ops pl p).dst ≠ some t → nth (F (q + 1)) t = nth (F p) t := by
       intro t hm hd
       refine hrun.slot hp (q + 1) (by omega) (by omega) fun y a b hy => ?_
       by_cases e : y = p
       ·subst e; exact hd hy
       ·exact (noW y (by omega) (by omega) t hy).2 hm
      have hself : ∀ t ∈ (Am ops pl p).looksAt ops, (Am ops pl p).dst ≠ some t := by
       intro t hm hd
       have hlp := hp.lt p hpn
       have h6 := List.all_eq_true.1 hsl (Ae pl p) (by simpa using (Array.getElem?_eq_some_iff.1 hlp).1)
       rw [hlp] at h6
       simp only [hd, Bool.and_eq_true, Bool.or_eq_true, Bool.not_eq_true'] at h6
       rcases h6.2 with h | h
       ·have : ((Am ops pl p).looksAt ops).contains t = true := by simpa using hm
        rw [this] at h; cases h
       ·simp only [Nat.beq_refl] at h; exact absurd h.1 (by simp)
      have Il : ∀ t ∈ (Am ops pl p).looksAt ops, nth (F (q + 1)) t = nth (F p) t := fun t hm => sameL t hm (hself t hm)
      rw [G3 Il, hw] at h5
      simp only at h5
      have hso := Md Il
      rw [ID hso, ht] at h5
      split at h5
      ·rename_i d id' hd hid'
       injection hid' with hid'
       subst hid'
       simp only [Bool.and_eq_true] at h5
       obtain ⟨hlt, h5⟩ := h5
       split at h5
       ·rename_i ob2 hg2
        split at h5
        ·rename_i v2 hv2
         refine ⟨ob2, hg2, ?_⟩
         rw [JT hso] at hv2
         have e1 := TB h5
         have e2 : nth (F (q + 1)) d = nth (F (p + 1)) d := hrun.slot hp (q + 1) (by omega) (by omega) fun y a b hy => (noW y (by omega) (by omega) d hy).1 hd
         have e3 : nth (F (p + 1)) d = x := by
          rw [hF, hd]
          show nth ((F p).set d x) d = x
          have hl1 := hrun.len hp (q + 1) (by omega)
          have hl2 := hrun.len hp p (by omega)
          rw [Nat.blt_eq] at hlt
          rw [Bu, if_pos ⟨rfl, by omega⟩]
         rw [hv2, e1, e2, e3]
        ·cases h5
       ·cases h5
      ·cases h5
   ·refine FY ?_
    rcases hrun.at_ hp (p := q) (by omega) with ⟨_, _, hH, _⟩ | ⟨_, v, hs, _, _⟩
    ·rw [hH]
    ·rw [En hc] at hs
     unfold GA at hs
     split at hs
     ·simp only [Option.map_eq_some_iff, Prod.mk.injEq] at hs; obtain ⟨_, _, _, e⟩ := hs; rw [← e]
     ·split at hs
      ·simp only [Option.map_eq_some_iff, Prod.mk.injEq] at hs; obtain ⟨_, _, _, e⟩ := hs; rw [← e]
      ·split at hs
       ·simp only [Option.map_eq_some_iff, Prod.mk.injEq] at hs; obtain ⟨_, _, _, e⟩ := hs; rw [← e]
       ·cases hs
     ·simp only [Option.map_eq_some_iff, Prod.mk.injEq] at hs; obtain ⟨_, _, _, e⟩ := hs; rw [← e]; exact AB.CF _ _ hidq
     ·rename_i h0 h1 h2
      exfalso
      have : ∀ op, AZ C.P op = 0 ∨ AZ C.P op = 1 ∨ AZ C.P op = 2 ∨ AZ C.P op = 3 := by
       intro op
       exact Gq op
      rcases this (Am ops pl q).op with h | h | h | h
      ·exact h0 h
      ·exact h1 h
      ·exact h2 h
      ·exact hc h
theorem Ir.NM (hrun : Ir C S g ops pl F H T) (hp : JM C.P ops pl) {w0 : World} {m : AU} {w : World} {p : Nat} (r : Rel C.P w0 m (H p) w) :
  ∀ q, p ≤ q → q ≤ pl.length → (∀ x, p ≤ x → x < q → AZ C.P (Am ops pl x).op ≠ 3) → Rel C.P w0 m (H q) w
 | 0, h1, _, _ => by rw [show 0 = p by omega]; exact r
 | q + 1, h1, h2, h3 => by
  by_cases e : p = q + 1
  ·rw [← e]; exact r
  ·have ih := Ir.NM hrun hp r q (by omega) (by omega) (fun x a b => h3 x a (by omega))
   have hc := h3 q (by omega) (by omega)
   rcases hrun.at_ hp (p := q) (by omega) with ⟨_, _, hH, _⟩ | ⟨_, v, hs, _, _⟩
   ·rw [hH]; exact ih
   ·rw [En hc] at hs
    unfold GA at hs
    split at hs
    ·simp only [Option.map_eq_some_iff, Prod.mk.injEq] at hs; obtain ⟨_, _, _, e⟩ := hs; rw [← e]; exact ih
    ·split at hs
     ·simp only [Option.map_eq_some_iff, Prod.mk.injEq] at hs; obtain ⟨_, _, _, e⟩ := hs; rw [← e]; exact ih
     ·split at hs
      ·simp only [Option.map_eq_some_iff, Prod.mk.injEq] at hs; obtain ⟨_, _, _, e⟩ := hs; rw [← e]; exact ih
      ·cases hs
    ·simp only [Option.map_eq_some_iff, Prod.mk.injEq] at hs; obtain ⟨_, _, _, e⟩ := hs; rw [← e]; exact ih.ghost _
    ·rename_i h0 h1 h2
     exfalso
     have : ∀ op, AZ C.P op = 0 ∨ AZ C.P op = 1 ∨ AZ C.P op = 2 ∨ AZ C.P op = 3 := by
      intro op
      exact Gq op
     rcases this (Am ops pl q).op with h | h | h | h
     ·exact h0 h
     ·exact h1 h
     ·exact h2 h
     ·exact hc h
end
end Go.Av
