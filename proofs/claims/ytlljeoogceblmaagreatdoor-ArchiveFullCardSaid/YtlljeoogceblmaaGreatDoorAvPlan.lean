/-
 A part.
-/
import Derived.Test.YtlljeoogceblmaaGreatDoorAvStep
namespace Go.Av
open Go.RowKit
def Pc (acc : List Nat) (o : Oper) : Nat := o.after.toList.foldl (fun s e => if Region.binds .any e then s ||| 2 ^ e.on ||| acc.getD e.on 0 else s) 0
def closure : List Oper → List Nat → List Nat
 | [], acc => acc
 | o :: os, acc => closure os (acc ++ [Pc acc o])
theorem NN (acc : List Nat) (j : Nat) : ∀ (l : List Edge) (s : Nat), (l.foldl (fun s e => if Region.binds .any e then s ||| 2 ^ e.on ||| acc.getD e.on 0 else s) s).testBit j = true ↔
  s.testBit j = true ∨ ∃ e ∈ l, Region.binds .any e = true ∧ (j = e.on ∨ (acc.getD e.on 0).testBit j = true)
 | [], s => by simp
 | e :: l, s => by
  rw [List.foldl_cons, NN acc j l]
  by_cases N : Region.binds .any e = true
  ·simp only [N, if_true, Nat.testBit_or, Bool.or_eq_true, Nat.testBit_two_pow, decide_eq_true_eq, List.mem_cons, exists_eq_or_imp, true_and]
   constructor
   ·rintro ((((h | h) | h)) | h)
    ·exact .inl h
    ·exact .inr (.inl (.inl h.symm))
    ·exact .inr (.inl (.inr h))
    ·exact .inr (.inr h)
   ·rintro (h | (h | h) | h)
    ·exact .inl (.inl (.inl h))
    ·exact .inl (.inl (.inr h.symm))
    ·exact .inl (.inr h)
    ·exact .inr h
  ·simp only [N, Bool.false_eq_true, if_false, List.mem_cons, exists_eq_or_imp, false_and, false_or]
theorem H2 : ∀ (l : List Oper) (acc : List Nat) (i : Nat), i < acc.length → (closure l acc)[i]? = acc[i]?
 | [], acc, i, _ => rfl
 | o :: l, acc, i, h => by rw [closure, H2 l _ i (by simp; omega), List.getElem?_append_left h]
theorem I7 : ∀ (l : List Oper) (acc : List Nat) (k : Nat) (o : Oper) (j : Nat), l[k]? = some o →
  ((((closure l acc).getD (acc.length + k) 0).testBit j = true ↔ ∃ e ∈ o.after.toList, Region.binds .any e = true ∧ (j = e.on ∨ (e.on < acc.length + k ∧ ((closure l acc).getD e.on 0).testBit j = true))))
 | [], acc, k, o, j, h => by simp at h
 | o' :: l, acc, 0, o, j, h => by
  simp only [List.getElem?_cons_zero, Option.some.injEq] at h
  subst h
  have e1 : (closure (o' :: l) acc).getD (acc.length + 0) 0 = Pc acc o' := by
   rw [List.getD_eq_getElem?_getD, closure, H2 l _ _ (by simp), List.getElem?_append_right (by omega)]
   simp
  rw [e1, Pc, NN]
  simp only [Nat.zero_testBit, Bool.false_eq_true, false_or]
  constructor
  ·rintro ⟨e, he, N, h | h⟩
   ·exact ⟨e, he, N, .inl h⟩
   ·refine ⟨e, he, N, .inr ?_⟩
    by_cases X : e.on < acc.length
    ·refine ⟨by omega, ?_⟩
     rw [List.getD_eq_getElem?_getD, closure, H2 l _ _ (by simp; omega), List.getElem?_append_left X]
     simpa [List.getD_eq_getElem?_getD] using h
    ·rw [List.getD_eq_getElem?_getD, List.getElem?_eq_none (by omega)] at h
     simp at h
  ·rintro ⟨e, he, N, h | ⟨X, h⟩⟩
   ·exact ⟨e, he, N, .inl h⟩
   ·refine ⟨e, he, N, .inr ?_⟩
    rw [List.getD_eq_getElem?_getD, closure, H2 l _ _ (by simp; omega), List.getElem?_append_left (by omega)] at h
    simpa [List.getD_eq_getElem?_getD] using h
 | o' :: l, acc, k + 1, o, j, h => by
  have ih := I7 l (acc ++ [Pc acc o']) k o j (by simpa using h)
  simp only [List.length_append, List.length_cons, List.length_nil] at ih
  rw [show acc.length + (k + 1) = acc.length + (0 + 1) + k by omega]
  exact ih
def dep (cl : List Nat) (i j : Nat) : Bool := (cl.getD j 0).testBit i
def Lu (ops : Array Oper) (cl : List Nat) (i : Nat) : Bool :=
 match ops[i]? with
 | some o => (List.range ops.size).all fun j =>
   match ops[j]? with
   | some p =>
    match p.dst with
    | some t => (Nat.beq j i || !(o.dst == some t)) && (!(o.looksAt ops).contains t || (!Nat.beq j i && dep cl j i))
    | none => true
   | none => true
 | none => false
def MB (P : Program) (ops : Array Oper) (cl : List Nat) (x y : Nat × List Nat) : Bool :=
  (x.1 != y.1) && !dep cl y.1 x.1 &&
  (dep cl x.1 y.1 ||
    (match ops[x.1]?, ops[y.1]? with
     | some a, some b => a.apart ops b && (BA P b.op == 0 || BA P a.op == 0 || (BA P a.op != 3 && (BA P b.op != 3 || y.2.any (Nat.beq x.1) || (BA P a.op == 1 && (y.2.any (Nat.beq (x.1 + 10000)) && Lu ops cl x.1)))))
     | _, _ => false))
def M9 (P : Program) (ops : Array Oper) (cl : List Nat) : List (Nat × List Nat) → Bool
 | [] => true
 | x :: l => l.all (fun y => MB P ops cl x y) && M9 P ops cl l
def Ka : List Oper → Nat → Bool
 | [], _ => true
 | o :: l, i => o.after.toList.all (fun e => !Region.binds .any e || Nat.blt e.on i) && Ka l (i + 1)
theorem LR : ∀ {l : List Oper} {i : Nat}, Ka l i = true → ∀ {k : Nat} {o : Oper} {e : Edge}, l[k]? = some o → e ∈ o.after.toList → Region.binds .any e = true → e.on < i + k
 | [], _, _, k, o, e, hk, _, _ => by simp at hk
 | o' :: l, i, h, k, o, e, hk, he, N => by
  simp only [Ka, Bool.and_eq_true] at h
  cases k with
  | zero =>
   simp only [List.getElem?_cons_zero, Option.some.injEq] at hk
   subst hk
   have := List.all_eq_true.1 h.1 e he
   rw [N] at this
   simp only [Bool.not_true, Bool.false_or, Nat.blt_eq] at this
   omega
  | succ k =>
   have := LR h.2 (k := k) (by simpa using hk) he N
   omega
def Na (P : Program) (ops : Array Oper) (pl : List (Nat × List Nat)) : Bool :=
 let cl := closure ops.toList []
 Ka ops.toList 0 && pl.all (fun x => Nat.blt x.1 ops.size) && (List.range ops.size).all (fun i => pl.any fun x => Nat.beq x.1 i) && M9 P ops cl pl
theorem N6 {P : Program} {ops : Array Oper} {cl : List Nat} : ∀ {pl : List (Nat × List Nat)}, M9 P ops cl pl = true → ∀ {p q : Nat} {x y : Nat × List Nat}, p < q → pl[p]? = some x → pl[q]? = some y → MB P ops cl x y = true
 | [], _, p, q, x, y, _, G, _ => by simp at G
 | z :: l, h, p, q, x, y, I, G, hy => by
  simp only [M9, Bool.and_eq_true] at h
  cases q with
  | zero => omega
  | succ q =>
   have hy' : l[q]? = some y := by simpa using hy
   cases p with
   | zero =>
    simp only [List.getElem?_cons_zero, Option.some.injEq] at G
    subst G
    exact List.all_eq_true.1 h.1 y (List.mem_of_getElem? hy')
   | succ p => exact N6 h.2 (p := p) (q := q) (by omega) (by simpa using G) hy'
section
variable {C : E8} {S : Self}
structure Ko (C : E8) (S : Self) (g : Gd) (ops : Array Oper) (pl : List (Nat × List Nat)) (F : Nat → Fr) (H : Nat → AF) (T : Nat → List (Nat × Nat)) : Prop where
  step : ∀ p x, pl[p]? = some x → ∃ o, ops[x.1]? = some o ∧
    ((Cc ops (F p) o = some false ∧ F (p + 1) = put (F p) o.dst (.tuple []) ∧ H (p + 1) = H p ∧ T (p + 1) = T p) ∨
     (Cc ops (F p) o = some true ∧ ∃ v, BO C S ⟨g.floor, Gu (T p) x.2 ++ g.CD⟩ (H p) (F p) o.op = some (v, H (p + 1)) ∧ F (p + 1) = put (F p) o.dst v ∧ T (p + 1) = FL C.P (H p) (F p) x.1 o.op (T p) ∧ M6 C ops x.2 (F (p + 1)) (H (p + 1)) = true))
theorem Jo {g : Gd} {ops : Array Oper} : ∀ (pl : List (Nat × List Nat)) (t : List (Nat × Nat)) (fr : Fr) (h : AF) (fr' : Fr) (h' : AF), CR C S g ops pl t fr h = some (fr', h') →
    ∃ F H T, Ko C S g ops pl F H T ∧ F 0 = fr ∧ H 0 = h ∧ T 0 = t ∧ F pl.length = fr' ∧ H pl.length = h'
  | [], t, fr, h, fr', h', L => by
    simp only [CR, Option.some.injEq, Prod.mk.injEq] at L
    obtain ⟨rfl, rfl⟩ := L
    exact ⟨fun _ => fr, fun _ => h, fun _ => t, ⟨fun p x G => by simp at G⟩, rfl, rfl, rfl, rfl, rfl⟩
  | (i, U) :: pl, t, fr, h, fr', h', L => by
    unfold CR at L
    split at L
    · cases L
    · rename_i o ho
      have glue : ∀ (fr1 : Fr) (h1 : AF) (t1 : List (Nat × Nat)), CR C S g ops pl t1 fr1 h1 = some (fr', h') →
          ((Cc ops fr o = some false ∧ fr1 = put fr o.dst (.tuple []) ∧ h1 = h ∧ t1 = t) ∨
           (Cc ops fr o = some true ∧ ∃ v, BO C S ⟨g.floor, Gu t U ++ g.CD⟩ h fr o.op = some (v, h1) ∧ fr1 = put fr o.dst v ∧ t1 = FL C.P h fr i o.op t ∧ M6 C ops U fr1 h1 = true)) →
          ∃ F H T, Ko C S g ops ((i, U) :: pl) F H T ∧ F 0 = fr ∧ H 0 = h ∧ T 0 = t ∧ F ((i, U) :: pl).length = fr' ∧ H ((i, U) :: pl).length = h' := by
        intro fr1 h1 t1 hrest hst
        obtain ⟨F, H, T, B, rfl, rfl, rfl, W, hH⟩ := Jo pl t1 fr1 h1 fr' h' hrest
        refine ⟨fun | 0 => fr | p + 1 => F p, fun | 0 => h | p + 1 => H p, fun | 0 => t | p + 1 => T p, ⟨fun p x G => ?_⟩, rfl, rfl, rfl, by simpa using W, by simpa using hH⟩
        cases p with
        | zero =>
          simp only [List.getElem?_cons_zero, Option.some.injEq] at G
          subst G
          exact ⟨o, ho, hst⟩
        | succ p => exact B.step p x (by simpa using G)
      split at L
      · rename_i hw
        split at L
        · rename_i v h1 E
          cases M : M6 C ops U (put fr o.dst v) h1 with
          | false => rw [M] at L; cases L
          | true =>
            rw [M] at L
            exact glue _ _ _ L (.inr ⟨hw, v, E, rfl, rfl, M⟩)
        · cases L
      · rename_i hw
        exact glue _ _ _ L (.inl ⟨hw, rfl, rfl, rfl⟩)
      · cases L
end
def BY (pl : List (Nat × List Nat)) (p : Nat) : Nat := (pl.getD p (0, [])).1
def KD (pl : List (Nat × List Nat)) (p : Nat) : List Nat := (pl.getD p (0, [])).2
def Bj (ops : Array Oper) (pl : List (Nat × List Nat)) (p : Nat) : Oper := ops.getD (BY pl p) default
structure LQ (P : Program) (ops : Array Oper) (pl : List (Nat × List Nat)) : Prop where
 lt : ∀ p, p < pl.length → ops[BY pl p]? = some (Bj ops pl p)
 Yn : ∀ i, i < ops.size → ∃ p, p < pl.length ∧ BY pl p = i
 ZK : ∀ p, p < pl.length → ∀ e ∈ (Bj ops pl p).after.toList, Region.binds .any e = true → e.on < BY pl p
 ne : ∀ p q, p < q → q < pl.length → BY pl p ≠ BY pl q
 WE : ∀ p q, p < q → q < pl.length → dep (closure ops.toList []) (BY pl q) (BY pl p) = false
 pair : ∀ p q, p < q → q < pl.length → dep (closure ops.toList []) (BY pl p) (BY pl q) = true ∨
  ((Bj ops pl p).apart ops (Bj ops pl q) = true ∧ (BA P (Bj ops pl q).op = 0 ∨ BA P (Bj ops pl p).op = 0 ∨
   (BA P (Bj ops pl p).op ≠ 3 ∧ (BA P (Bj ops pl q).op ≠ 3 ∨ (KD pl q).any (Nat.beq (BY pl p)) = true ∨
    (BA P (Bj ops pl p).op = 1 ∧ (KD pl q).any (Nat.beq (BY pl p + 10000)) = true ∧ Lu ops (closure ops.toList []) (BY pl p) = true)))))
theorem R7 {P : Program} {ops : Array Oper} {pl : List (Nat × List Nat)} (h : Na P ops pl = true) : LQ P ops pl := by
 simp only [Na, Bool.and_eq_true] at h
 obtain ⟨⟨⟨h0, h1⟩, h2⟩, O⟩ := h
 have get : ∀ p, p < pl.length → pl[p]? = some (BY pl p, KD pl p) := fun p D => by
  simp [BY, KD, List.getD_eq_getElem?_getD, List.getElem?_eq_getElem D]
 have lt : ∀ p, p < pl.length → BY pl p < ops.size := fun p D => by
  have := List.all_eq_true.1 h1 _ (List.mem_of_getElem? (get p D))
  rw [Nat.blt_eq] at this
  exact this
 have lt' : ∀ p, p < pl.length → ops[BY pl p]? = some (Bj ops pl p) := fun p D => by
  have := lt p D
  simp [Bj, Array.getD_eq_getD_getElem?, this]
 have pk : ∀ p q, p < q → q < pl.length → MB P ops (closure ops.toList []) (BY pl p, KD pl p) (BY pl q, KD pl q) = true := fun p q I Y =>
  N6 O I (get p (by omega)) (get q Y)
 refine ⟨lt', fun i hi => ?_, fun p D e he N => ?_, fun p q I Y => ?_, fun p q I Y => ?_, fun p q I Y => ?_⟩
 ·have := List.all_eq_true.1 h2 i (by simpa using hi)
  obtain ⟨x, G, hxi⟩ := List.any_eq_true.1 this
  obtain ⟨p, D, rfl⟩ := List.mem_iff_getElem.1 G
  refine ⟨p, D, ?_⟩
  rw [← Nat.eq_of_beq_eq_true hxi]
  simp [BY, List.getD_eq_getElem?_getD, List.getElem?_eq_getElem D]
 ·have := LR h0 (k := BY pl p) (by simpa using lt' p D) he N
  omega
 ·have := pk p q I Y
  simp only [MB, Bool.and_eq_true, bne_iff_ne] at this
  exact this.1.1
 ·have := pk p q I Y
  simp only [MB, Bool.and_eq_true, Bool.not_eq_true'] at this
  exact this.1.2
 ·have := pk p q I Y
  simp only [MB, Bool.and_eq_true, Bool.or_eq_true] at this
  rcases this.2 with hd | hd
  ·exact .inl hd
  ·right
   rw [lt' p (by omega), lt' q Y] at hd
   simp only [Bool.and_eq_true, Bool.or_eq_true, beq_iff_eq, bne_iff_ne] at hd
   refine ⟨hd.1, ?_⟩
   rcases hd.2 with (a | a) | ⟨a, b⟩
   ·exact .inl a
   ·exact .inr (.inl a)
   ·refine .inr (.inr ⟨a, ?_⟩)
    rcases b with (b | b) | ⟨b, c, d⟩
    ·exact .inl b
    ·exact .inr (.inl b)
    ·exact .inr (.inr ⟨b, c, d⟩)
def Gx (f : Nat → Bool) : Nat → Nat → Nat
 | s, 0 => s
 | s, k + 1 => if f s = true then s else Gx f (s + 1) k
theorem Dt (f : Nat → Bool) : ∀ (k s : Nat), s ≤ Gx f s k ∧ Gx f s k ≤ s + k ∧ (∀ p, s ≤ p → p < Gx f s k → f p = false) ∧ (Gx f s k < s + k → f (Gx f s k) = true)
 | 0, s => ⟨Nat.le_refl _, Nat.le_refl _, fun p h1 h2 => by simp [Gx] at h2; omega, fun h => by simp [Gx] at h⟩
 | k + 1, s => by
  unfold Gx
  by_cases hf : f s = true
  ·rw [if_pos hf]; exact ⟨Nat.le_refl _, by omega, fun p h1 h2 => by omega, fun _ => hf⟩
  ·rw [if_neg hf]
   obtain ⟨a, b, c, d⟩ := Dt f k (s + 1)
   refine ⟨by omega, by omega, fun p h1 h2 => ?_, fun h => d (by omega)⟩
   by_cases e : p = s
   ·subst e; simpa using hf
   ·exact c p (by omega) h2
theorem Lw (f : Nat → Bool) {n r : Nat} (L : r ≤ n) (h1 : ∀ p, p < r → f p = false) (h2 : r < n → f r = true) : Gx f 0 n = r := by
 obtain ⟨a, b, c, d⟩ := Dt f n 0
 rcases Nat.lt_trichotomy (Gx f 0 n) r with h | h | h
 ·have := h1 _ h
  rw [d (by omega)] at this
  cases this
 ·exact h
 ·have := c r (by omega) h
  rw [h2 (by omega)] at this
  cases this
section
variable {C : E8} {S : Self} {g : Gd} {ops : Array Oper} {pl : List (Nat × List Nat)} {F : Nat → Fr} {H : Nat → AF} {T : Nat → List (Nat × Nat)}
theorem Ko.at_ (B : Ko C S g ops pl F H T) (D : LQ C.P ops pl) {p : Nat} (h : p < pl.length) :
  (Cc ops (F p) (Bj ops pl p) = some false ∧ F (p + 1) = put (F p) (Bj ops pl p).dst (.tuple []) ∧ H (p + 1) = H p ∧ T (p + 1) = T p) ∨
  (Cc ops (F p) (Bj ops pl p) = some true ∧ ∃ v, BO C S ⟨g.floor, Gu (T p) (KD pl p) ++ g.CD⟩ (H p) (F p) (Bj ops pl p).op = some (v, H (p + 1)) ∧ F (p + 1) = put (F p) (Bj ops pl p).dst v ∧
   T (p + 1) = FL C.P (H p) (F p) (BY pl p) (Bj ops pl p).op (T p) ∧ M6 C ops (KD pl p) (F (p + 1)) (H (p + 1)) = true) := by
 have G : pl[p]? = some (BY pl p, KD pl p) := by simp [BY, KD, List.getD_eq_getElem?_getD, List.getElem?_eq_getElem h]
 obtain ⟨o, ho, hst⟩ := B.step p _ G
 rw [D.lt p h] at ho
 injection ho with ho
 subst ho
 exact hst
theorem Ko.len (B : Ko C S g ops pl F H T) (D : LQ C.P ops pl) : ∀ p, p ≤ pl.length → (F p).length = (F 0).length
 | 0, _ => rfl
 | p + 1, h => by
  rw [← Ko.len B D p (by omega)]
  rcases B.at_ D (p := p) (by omega) with ⟨_, W, _⟩ | ⟨_, v, _, W, _⟩ <;> rw [W] <;> simp
theorem Ni (fr : Fr) {d : Option Tmp} {t : Nat} (v : AB) (h : d ≠ some t) : nth (put fr d v) t = nth fr t := by
 cases d with
 | none => rfl
 | some d =>
  simp only [put]
  rw [Ee, if_neg (by rintro ⟨rfl, _⟩; exact h rfl)]
theorem Ko.slot (B : Ko C S g ops pl F H T) (D : LQ C.P ops pl) {t p : Nat} : ∀ q, p ≤ q → q ≤ pl.length → (∀ x, p ≤ x → x < q → (Bj ops pl x).dst ≠ some t) → nth (F q) t = nth (F p) t
 | 0, h1, _, _ => by rw [show p = 0 by omega]
 | q + 1, h1, h2, O => by
  by_cases e : p = q + 1
  ·rw [e]
  ·rw [← Ko.slot B D q (by omega) (by omega) (fun x a b => O x a (by omega))]
   have hne := O q (by omega) (by omega)
   rcases B.at_ D (p := q) (by omega) with ⟨_, W, _⟩ | ⟨_, v, _, W, _⟩ <;> rw [W, Ni _ _ hne]
theorem Ko.keeps (B : Ko C S g ops pl F H T) (D : LQ C.P ops pl) (V : Ew C.P C.Ca S) {p : Nat} (h : p < pl.length) : BF ⟨g.floor, Gu (T p) (KD pl p) ++ g.CD⟩ (H p) (H (p + 1)) := by
 rcases B.at_ D h with ⟨_, _, hH, _⟩ | ⟨_, v, E, _, _⟩
 ·rw [hH]; exact BF.refl _ _
 ·exact IJ V E
theorem Ko.size (B : Ko C S g ops pl F H T) (D : LQ C.P ops pl) (V : Ew C.P C.Ca S) {p : Nat} : ∀ q, p ≤ q → q ≤ pl.length → (H p).size ≤ (H q).size
 | 0, h1, _ => by rw [show p = 0 by omega]; exact Nat.le_refl _
 | q + 1, h1, h2 => by
  by_cases e : p = q + 1
  ·rw [e]; exact Nat.le_refl _
  ·exact Nat.le_trans (Ko.size B D V q (by omega) (by omega)) (B.keeps D V (p := q) (by omega)).1
theorem Qb {g : Gd} {t : List (Nat × Nat)} {U : List Nat} {i id : Nat} (h1 : (i, id) ∈ t) (h2 : U.any (Nat.beq i) = true) : (⟨g.floor, Gu t U ++ g.CD⟩ : Gd).may id = false := by
 have : (Gu t U ++ g.CD).any (Nat.beq id) = true := by
  refine List.any_eq_true.2 ⟨id, List.mem_append.2 (.inl (List.mem_filterMap.2 ⟨(i, id), h1, ?_⟩)), Nat.beq_refl id⟩
  simp [h2]
 simp [Gd.may, this]
theorem RO {g : Gd} {l : List Nat} (id : Nat) (h : g.may id = false) : (⟨g.floor, l ++ g.CD⟩ : Gd).may id = false := by
 simp only [Gd.may, Bool.and_eq_false_iff, Bool.not_eq_false'] at h ⊢
 rcases h with h | h
 ·exact .inl h
 ·right; simp [List.any_append, h]
theorem Ko.told (B : Ko C S g ops pl F H T) (D : LQ C.P ops pl) {p : Nat} {x : Nat × Nat} (G : x ∈ T p) : ∀ q, p ≤ q → q ≤ pl.length → x ∈ T q
 | 0, h1, _ => by rw [show 0 = p by omega]; exact G
 | q + 1, h1, h2 => by
  by_cases e : p = q + 1
  ·rw [← e]; exact G
  ·have ih := Ko.told B D G q (by omega) (by omega)
   rcases B.at_ D (p := q) (by omega) with ⟨_, _, _, hT⟩ | ⟨_, v, _, _, hT, _⟩
   ·rw [hT]; exact ih
   ·rw [hT]
    unfold FL
    split
    ·split
     ·exact List.mem_cons_of_mem _ ih
     ·exact ih
    ·exact List.mem_cons_of_mem _ ih
    ·exact ih
theorem Ko.same (B : Ko C S g ops pl F H T) (D : LQ C.P ops pl) (V : Ew C.P C.Ca S) {p i id : Nat} (G : (i, id) ∈ T p) (hid : id < (H p).size) :
  ∀ q, p ≤ q → q ≤ pl.length → (∀ x, p ≤ x → x < q → BA C.P (Bj ops pl x).op = 3 → (KD pl x).any (Nat.beq i) = true) → (H q).get id = (H p).get id
 | 0, h1, _, _ => by rw [show p = 0 by omega]
 | q + 1, h1, h2, O => by
  by_cases e : p = q + 1
  ·rw [e]
  ·rw [← Ko.same B D V G hid q (by omega) (by omega) (fun x a b => O x a (by omega))]
   have J : id < (H q).size := Nat.lt_of_lt_of_le hid (B.size D V q (by omega) (by omega))
   by_cases hc : BA C.P (Bj ops pl q).op = 3
   ·exact (B.keeps D V (p := q) (by omega)).2 id J (Qb (B.told D G q (by omega) (by omega)) (O q (by omega) (by omega) hc))
   ·rcases B.at_ D (p := q) (by omega) with ⟨_, _, hH, _⟩ | ⟨_, v, E, _, _⟩
    ·rw [hH]
    ·rw [GN hc] at E
     unfold Gp at E
     split at E
     ·simp only [Option.map_eq_some_iff, Prod.mk.injEq] at E; obtain ⟨_, _, _, e⟩ := E; rw [← e]
     ·split at E
      ·simp only [Option.map_eq_some_iff, Prod.mk.injEq] at E; obtain ⟨_, _, _, e⟩ := E; rw [← e]
      ·split at E
       ·simp only [Option.map_eq_some_iff, Prod.mk.injEq] at E; obtain ⟨_, _, _, e⟩ := E; rw [← e]
       ·cases E
     ·simp only [Option.map_eq_some_iff, Prod.mk.injEq] at E; obtain ⟨_, _, _, e⟩ := E; rw [← e]; exact AF.B1 _ _ J
     ·rename_i h0 h1 h2
      exfalso
      have : ∀ op, BA C.P op = 0 ∨ BA C.P op = 1 ∨ BA C.P op = 2 ∨ BA C.P op = 3 := by
       intro op
       unfold BA
       repeat' split
       all_goals simp
      rcases this (Bj ops pl q).op with h | h | h | h
      ·exact h0 h
      ·exact h1 h
      ·exact h2 h
      ·exact hc h
theorem TT {v x : AB} (h : TM v x = true) : v = x := by
 unfold TM at h
 split at h
 ·simp only [Bool.and_eq_true] at h; rw [Nat.eq_of_beq_eq_true h.1, Nat.eq_of_beq_eq_true h.2]
 ·simp only [Bool.and_eq_true, decide_eq_true_eq] at h; rw [h.1, h.2]
 ·simp only [beq_iff_eq] at h; rw [h]
 ·simp only [decide_eq_true_eq] at h; rw [h]
 ·rfl
 ·cases h
theorem Ko.reads (B : Ko C S g ops pl F H T) (D : LQ C.P ops pl) (V : Ew C.P C.Ca S) {p id : Nat} {ob : CJ} {x : AB} (hpn : p < pl.length) (hw : Cc ops (F p) (Bj ops pl p) = some true)
  (ht : Cq (F p) (Bj ops pl p).op = some id) (hg : (H (p + 1)).get id = some ob) (G : Ih C.P C.Ca (F p) (some ob) (Bj ops pl p).op = some x) (W : F (p + 1) = put (F p) (Bj ops pl p).dst x) (Z : (BY pl p, id) ∈ T (p + 1)) :
  ∀ q, p + 1 ≤ q → q ≤ pl.length → (∀ y, p < y → y < q → BA C.P (Bj ops pl y).op = 3 → (KD pl y).any (Nat.beq (BY pl p)) = true ∨ ((KD pl y).any (Nat.beq (BY pl p + 10000)) = true ∧ Lu ops (closure ops.toList []) (BY pl p) = true)) →
   ∃ ob', (H q).get id = some ob' ∧ Ih C.P C.Ca (F p) (some ob') (Bj ops pl p).op = some x
 | 0, h1, _, _ => by omega
 | q + 1, h1, h2, O => by
  by_cases e : p = q
  ·subst e; exact ⟨ob, hg, G⟩
  ·obtain ⟨ob', g1, g2⟩ := Ko.reads B D V hpn hw ht hg G W Z q (by omega) (by omega) (fun y a b => O y a (by omega))
   have J := (H q).BV g1
   have GV : (H (q + 1)).get id = (H q).get id → ∃ ob', (H (q + 1)).get id = some ob' ∧ Ih C.P C.Ca (F p) (some ob') (Bj ops pl p).op = some x := fun e => ⟨ob', by rw [e]; exact g1, g2⟩
   by_cases hc : BA C.P (Bj ops pl q).op = 3
   ·rcases O q (by omega) (by omega) hc with hu | ⟨hu, Q⟩
    ·exact GV ((B.keeps D V (p := q) (by omega)).2 id J (Qb (B.told D Z q (by omega) (by omega)) hu))
    ·rcases B.at_ D (p := q) (by omega) with ⟨_, _, hH, _⟩ | ⟨_, v, E, hFq, _, M⟩
     ·rw [hH]; exact ⟨ob', g1, g2⟩
     ·unfold M6 at M
      obtain ⟨u, hum, hue⟩ := List.any_eq_true.1 hu
      have hue := Nat.eq_of_beq_eq_true hue
      have K := List.all_eq_true.1 M u hum
      have hbl : Nat.blt u 10000 = false := by rw [← Bool.not_eq_true, Nat.blt_eq]; omega
      rw [hbl, Bool.false_or, show u - 10000 = BY pl p by omega] at K
      unfold WN at K
      unfold Lu at Q
      rw [D.lt p hpn] at K Q
      simp only at K Q
      have noW : ∀ y, p < y → y ≤ q → ∀ t, (Bj ops pl y).dst = some t → (Bj ops pl p).dst ≠ some t ∧ t ∉ (Bj ops pl p).looksAt ops := by
       intro y a b t hd
       have hyn : y < pl.length := by omega
       have hly := D.lt y hyn
       have h6 := List.all_eq_true.1 Q (BY pl y) (by simpa using (Array.getElem?_eq_some_iff.1 hly).1)
       rw [hly] at h6
       simp only [hd, Bool.and_eq_true, Bool.or_eq_true, Bool.not_eq_true'] at h6
       refine ⟨fun e => ?_, fun hm => ?_⟩
       ·rcases h6.1 with h | h
        ·exact D.ne p y a hyn (Nat.eq_of_beq_eq_true h).symm
        ·rw [e] at h; simp at h
       ·rcases h6.2 with h | h
        ·have : ((Bj ops pl p).looksAt ops).contains t = true := by simpa using hm
         rw [this] at h; cases h
        ·rw [D.WE p y a hyn] at h; exact absurd h.2 (by simp)
      have sameL : ∀ t ∈ (Bj ops pl p).looksAt ops, (Bj ops pl p).dst ≠ some t → nth (F (q + 1)) t = nth (F p) t := by
       intro t hm hd
       refine B.slot D (q + 1) (by omega) (by omega) fun y a b hy => ?_
       by_cases e : y = p
       ·subst e; exact hd hy
       ·exact (noW y (by omega) (by omega) t hy).2 hm
      have hself : ∀ t ∈ (Bj ops pl p).looksAt ops, (Bj ops pl p).dst ≠ some t := by
       intro t hm hd
       have hlp := D.lt p hpn
       have h6 := List.all_eq_true.1 Q (BY pl p) (by simpa using (Array.getElem?_eq_some_iff.1 hlp).1)
       rw [hlp] at h6
       simp only [hd, Bool.and_eq_true, Bool.or_eq_true, Bool.not_eq_true'] at h6
       rcases h6.2 with h | h
       ·have : ((Bj ops pl p).looksAt ops).contains t = true := by simpa using hm
        rw [this] at h; cases h
       ·simp only [Nat.beq_refl] at h; exact absurd h.1 (by simp)
      have KJ : ∀ t ∈ (Bj ops pl p).looksAt ops, nth (F (q + 1)) t = nth (F p) t := fun t hm => sameL t hm (hself t hm)
      rw [JH KJ, hw] at K
      simp only at K
      have hso := L5 KJ
      rw [KI hso, ht] at K
      split at K
      ·rename_i d id' hd R
       injection R with R
       subst R
       simp only [Bool.and_eq_true] at K
       obtain ⟨X, K⟩ := K
       split at K
       ·rename_i ob2 hg2
        split at K
        ·rename_i v2 hv2
         refine ⟨ob2, hg2, ?_⟩
         rw [Lz hso] at hv2
         have e1 := TT K
         have e2 : nth (F (q + 1)) d = nth (F (p + 1)) d := B.slot D (q + 1) (by omega) (by omega) fun y a b hy => (noW y (by omega) (by omega) d hy).1 hd
         have e3 : nth (F (p + 1)) d = x := by
          rw [W, hd]
          show nth ((F p).set d x) d = x
          have hl1 := B.len D (q + 1) (by omega)
          have hl2 := B.len D p (by omega)
          rw [Nat.blt_eq] at X
          rw [Ee, if_pos ⟨rfl, by omega⟩]
         rw [hv2, e1, e2, e3]
        ·cases K
       ·cases K
      ·cases K
   ·refine GV ?_
    rcases B.at_ D (p := q) (by omega) with ⟨_, _, hH, _⟩ | ⟨_, v, E, _, _⟩
    ·rw [hH]
    ·rw [GN hc] at E
     unfold Gp at E
     split at E
     ·simp only [Option.map_eq_some_iff, Prod.mk.injEq] at E; obtain ⟨_, _, _, e⟩ := E; rw [← e]
     ·split at E
      ·simp only [Option.map_eq_some_iff, Prod.mk.injEq] at E; obtain ⟨_, _, _, e⟩ := E; rw [← e]
      ·split at E
       ·simp only [Option.map_eq_some_iff, Prod.mk.injEq] at E; obtain ⟨_, _, _, e⟩ := E; rw [← e]
       ·cases E
     ·simp only [Option.map_eq_some_iff, Prod.mk.injEq] at E; obtain ⟨_, _, _, e⟩ := E; rw [← e]; exact AF.B1 _ _ J
     ·rename_i h0 h1 h2
      exfalso
      have : ∀ op, BA C.P op = 0 ∨ BA C.P op = 1 ∨ BA C.P op = 2 ∨ BA C.P op = 3 := by
       intro op
       unfold BA
       repeat' split
       all_goals simp
      rcases this (Bj ops pl q).op with h | h | h | h
      ·exact h0 h
      ·exact h1 h
      ·exact h2 h
      ·exact hc h
theorem Ko.Pn (B : Ko C S g ops pl F H T) (D : LQ C.P ops pl) {w0 : World} {m : BK} {w : World} {p : Nat} (r : Rel C.P w0 m (H p) w) :
  ∀ q, p ≤ q → q ≤ pl.length → (∀ x, p ≤ x → x < q → BA C.P (Bj ops pl x).op ≠ 3) → Rel C.P w0 m (H q) w
 | 0, h1, _, _ => by rw [show 0 = p by omega]; exact r
 | q + 1, h1, h2, O => by
  by_cases e : p = q + 1
  ·rw [← e]; exact r
  ·have ih := Ko.Pn B D r q (by omega) (by omega) (fun x a b => O x a (by omega))
   have hc := O q (by omega) (by omega)
   rcases B.at_ D (p := q) (by omega) with ⟨_, _, hH, _⟩ | ⟨_, v, E, _, _⟩
   ·rw [hH]; exact ih
   ·rw [GN hc] at E
    unfold Gp at E
    split at E
    ·simp only [Option.map_eq_some_iff, Prod.mk.injEq] at E; obtain ⟨_, _, _, e⟩ := E; rw [← e]; exact ih
    ·split at E
     ·simp only [Option.map_eq_some_iff, Prod.mk.injEq] at E; obtain ⟨_, _, _, e⟩ := E; rw [← e]; exact ih
     ·split at E
      ·simp only [Option.map_eq_some_iff, Prod.mk.injEq] at E; obtain ⟨_, _, _, e⟩ := E; rw [← e]; exact ih
      ·cases E
    ·simp only [Option.map_eq_some_iff, Prod.mk.injEq] at E; obtain ⟨_, _, _, e⟩ := E; rw [← e]; exact ih.ghost _
    ·rename_i h0 h1 h2
     exfalso
     have : ∀ op, BA C.P op = 0 ∨ BA C.P op = 1 ∨ BA C.P op = 2 ∨ BA C.P op = 3 := by
      intro op
      unfold BA
      repeat' split
      all_goals simp
     rcases this (Bj ops pl q).op with h | h | h | h
     ·exact h0 h
     ·exact h1 h
     ·exact h2 h
     ·exact hc h
end
end Go.Av
