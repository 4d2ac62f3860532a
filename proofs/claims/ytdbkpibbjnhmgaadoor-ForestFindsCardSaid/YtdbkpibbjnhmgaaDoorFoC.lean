/-
 A part.
-/
import Derived.Test.YtdbkpibbjnhmgaaDoorFoB
namespace Go.Av.L
open Go.Av Go.Lib
set_option linter.unusedVariables false
set_option linter.unusedSimpArgs false
theorem W7 {p : B9 → Bool} {step : Int → Option (Int ⊕ (Unit ⊕ Int))} {l : List B9} (hl : l.length < 900000000)
  (hs : ∀ s, step s = Ax (decide (s < (l.length : Int))) ((Em l s).bind fun x => Ax (p x) (some (.inr (.inr s))) (some (.inl (IntKind.i64.wrap (s + 1))))) (some (.inr (.inl ())))) :
  (loop step 0 = some (.inl ()) ∧ ∀ x ∈ l, p x = false) ∨ ∃ (k : Nat) (x : B9), loop step 0 = some (.inr (k : Int)) ∧ l[k]? = some x ∧ p x = true ∧ ∀ y ∈ l.take k, p y = false := by
 have key : ∀ (n i : Nat), i + n = l.length → (∀ y ∈ l.take i, p y = false) → (loop step (i : Int) = some (.inl ()) ∧ ∀ x ∈ l, p x = false) ∨ ∃ (k : Nat) (x : B9), loop step (i : Int) = some (.inr (k : Int)) ∧ l[k]? = some x ∧ p x = true ∧ ∀ y ∈ l.take k, p y = false := by
  intro n
  induction n with
  | zero =>
   intro i hi ht
   refine .inl ⟨BY ?_, fun x hx => ht x (by rw [List.take_of_length_le (by omega)]; exact hx)⟩
   rw [hs, AQ, if_neg (by omega)]
  | succ n ih =>
   intro i hi ht
   have hlt : i < l.length := by omega
   cases hp : p l[i] with
   | true =>
    refine .inr ⟨i, l[i], BY ?_, List.getElem?_eq_getElem hlt, hp, ht⟩
    rw [hs, AQ, if_pos (by omega), BO hlt, Option.bind_some, hp, BE]
   | false =>
    have st : step (i : Int) = some (.inl ((i + 1 : Nat) : Int)) := by
     rw [hs, AQ, if_pos (by omega), BO hlt, Option.bind_some, hp, Ay, D5 (by omega)]
    rw [CR st]
    refine ih (i + 1) (by omega) fun y hy => ?_
    rw [B0 (List.getElem?_eq_getElem hlt), List.mem_append] at hy
    rcases hy with hy | hy
    ·exact ht y hy
    ·rw [List.mem_singleton.1 hy]; exact hp
 exact key l.length 0 (by omega) (fun y hy => by simp at hy)
theorem Wn {p : B9 → Bool} {step : List B9 × Int × Int → Option ((List B9 × Int × Int) ⊕ (List B9 × Int))} {l : List B9} (hl : l.length < 900000000)
  (hs : ∀ xs i j, step (xs, i, j) = Ax (decide (j < (xs.length : Int))) (((Em xs j).bind fun x => Ax (!p x) ((Em xs i).bind fun _ => some (xs.set i.toNat x, IntKind.i64.wrap (i + 1))) (some (xs, i)) : Option (List B9 × Int)).bind fun (a, b) => some (.inl (a, b, IntKind.i64.wrap (j + 1)))) (some (.inr (xs, i)))) :
  ∀ (n j : Nat) (xs : List B9) (i : Nat), j + n = l.length → i ≤ j → xs.length = l.length → xs.drop j = l.drop j → xs.take i = (l.take j).filter (fun x => !p x) →
   ∃ xs' i', loop step (xs, (i : Int), (j : Int)) = some (xs', ((i' : Nat) : Int)) ∧ xs'.length = l.length ∧ i' ≤ l.length ∧ xs'.take i' = l.filter fun x => !p x := by
 intro n
 induction n with
 | zero =>
  intro j xs i hj hi hx hd ht
  refine ⟨xs, i, BY ?_, hx, by omega, ?_⟩
  ·rw [hs, AQ, if_neg (by omega)]
  ·rw [ht, List.take_of_length_le (by omega)]
 | succ n ih =>
  intro j xs i hj hi hx hd ht
  have hlt : j < l.length := by omega
  have hlx : j < xs.length := by omega
  have e0 : xs[j] = l[j] := by
   have h1 := congrArg (fun z : List B9 => z[0]?) hd
   simp only [List.getElem?_drop, Nat.add_zero, List.getElem?_eq_getElem hlx, List.getElem?_eq_getElem hlt] at h1
   exact Option.some.inj h1
  have ed : xs.drop (j + 1) = l.drop (j + 1) := by
   have := congrArg (fun z : List B9 => z.drop 1) hd
   simpa [List.drop_drop] using this
  cases hp : p l[j] with
  | true =>
   have st : step (xs, (i : Int), (j : Int)) = some (.inl (xs, (i : Int), ((j + 1 : Nat) : Int))) := by
    rw [hs, AQ, if_pos (by omega), BO hlx, Option.bind_some, e0, hp, Bool.not_true, Ay, Option.bind_some, D5 (by omega)]
   rw [CR st]
   refine ih (j + 1) xs i (by omega) (by omega) hx ed ?_
   rw [ht, B0 (List.getElem?_eq_getElem hlt), List.filter_append]
   simp [hp]
  | false =>
   have hix : i < xs.length := by omega
   have st : step (xs, (i : Int), (j : Int)) = some (.inl (xs.set i l[j], ((i + 1 : Nat) : Int), ((j + 1 : Nat) : Int))) := by
    rw [hs, AQ, if_pos (by omega), BO hlx, Option.bind_some, e0, hp, Bool.not_false, BE, BO hix, Option.bind_some, Option.bind_some, D5 (by omega), D5 (by omega), Int.toNat_natCast]
   rw [CR st]
   refine ih (j + 1) (xs.set i l[j]) (i + 1) (by omega) (by omega) (by simpa using hx) ?_ ?_
   ·rw [List.drop_set_of_lt (by omega)]; exact ed
   ·rw [B0 (List.getElem?_eq_getElem hlt), List.filter_append, B0 (x := l[j]) (by rw [List.getElem?_set_self hix]), List.take_set_of_le (Nat.le_refl _), ht]
    simp [hp]
theorem Tj {n i : Nat} (h : i ≤ n) : Tv n (i : Int) = some i := by
 unfold Tv
 rw [if_pos ⟨by omega, by rw [Int.toNat_natCast]; exact h⟩, Int.toNat_natCast]
theorem Q9 {xs : List B9} {i : Nat} (h : i ≤ xs.length) : (Fg xs i).take i = xs.take i := by
 unfold Fg
 rw [List.take_append_of_le_length (by rw [List.length_take]; omega), List.take_take, Nat.min_self]
theorem Rp {p : B9 → Bool} {ix : Option Int} {ixs : Int → Option (Int ⊕ (Unit ⊕ Int))} {step : List B9 × Int × Int → Option ((List B9 × Int × Int) ⊕ (List B9 × Int))} {l : List B9} (hl : l.length < 900000000)
  (hi : ∀ s, ixs s = Ax (decide (s < (l.length : Int))) ((Em l s).bind fun x => Ax (p x) (some (.inr (.inr s))) (some (.inl (IntKind.i64.wrap (s + 1))))) (some (.inr (.inl ()))))
  (hx : ix = (loop ixs (0 : Int)).bind fun o1 => (match o1 with | .inl _ => some (-1 : Int) | .inr x2 => some x2))
  (hs : ∀ xs i j, step (xs, i, j) = Ax (decide (j < (xs.length : Int))) (((Em xs j).bind fun x => Ax (!p x) ((Em xs i).bind fun _ => some (xs.set i.toNat x, IntKind.i64.wrap (i + 1))) (some (xs, i)) : Option (List B9 × Int)).bind fun (a, b) => some (.inl (a, b, IntKind.i64.wrap (j + 1)))) (some (.inr (xs, i)))) :
  (ix.bind fun x1 => Ax (x1 == (-1)) (some l) ((loop step (l, x1, IntKind.i64.wrap (x1 + 1))).bind fun (x5, x6) => (Tv x5.length x6).bind fun o3 => (JW (Fg x5 o3) none (some x6)).bind fun x12 => some x12)) = some (l.filter fun x => !p x) := by
 rcases W7 hl hi with ⟨h1, h2⟩ | ⟨k, x, h1, h2, h3, h4⟩
 ·rw [hx, h1]
  simp only [Option.bind_some]
  rw [show ((-1 : Int) == -1) = true from rfl, BE]
  congr 1
  rw [List.filter_eq_self.2 fun x hx => by rw [h2 x hx]; rfl]
 ·rw [hx, h1]
  simp only [Option.bind_some]
  have hk := (List.getElem?_eq_some_iff.1 h2).1
  rw [beq_eq_false_iff_ne.2 (show (k : Int) ≠ -1 by omega), Ay, D5 (by omega)]
  obtain ⟨xs', i', e1, e2, e3, e4⟩ := Wn (p := p) hl hs (l.length - (k + 1)) (k + 1) l k (by omega) (by omega) rfl rfl (by
   rw [B0 h2, List.filter_append, List.filter_eq_self.2 fun y hy => by rw [h4 y hy]; rfl]
   simp [h3])
  rw [e1]
  simp only [Option.bind_some]
  rw [Tj (by omega)]
  simp only [Option.bind_some]
  rw [QG (by rw [FN (by omega)]; omega), Option.bind_some, Q9 (by omega), e4]
def Dd (s : B9) : List B9 := (Dv s).filter fun x => !(x == [46])
theorem K2 {s x : B9} (h : x ∈ Dd s) : NV x := Mf (List.mem_filter.1 h).1
theorem IU (s : B9) : (Dd s).length ≤ s.length + 1 := Nat.le_trans (List.length_filter_le _ _) (KD s)
theorem U6 {l : List B9} (hl : l.length < 900000000) : BL l = some (l.filter fun x => !(x == [46])) :=
 Rp (p := fun x => x == [46]) (ix := BQ l) (ixs := Bj l) (step := Bh) hl (fun s => rfl) rfl (fun xs i j => rfl)
theorem UZ {l : List B9} (hl : l.length < 900000000) : BD l = some (l.filter fun x => !(x == [])) :=
 Rp (p := fun x => x == []) (ix := BH l) (ixs := Bc l) (step := Ba) hl (fun s => rfl) rfl (fun xs i j => rfl)
theorem Ja (p : B9 → Bool) : ∀ (l : List B9), (∀ x ∈ l, NV x) → (pj (l.filter p)).length ≤ (pj l).length
 | [], _ => by simp
 | x :: l, h => by
  have ih := Ja p l fun y hy => h y (by simp [hy])
  have cons_le : ∀ (x : B9) (l : List B9), (pj l).length ≤ (pj (x :: l)).length := fun x l => by
   cases l with
   | nil => simp [HY]
   | cons y l => rw [D7, List.length_append, List.length_cons]; omega
  rw [List.filter_cons]
  cases p x with
  | false => exact Nat.le_trans ih (cons_le x l)
  | true =>
   rw [if_pos rfl]
   cases hl : l.filter p with
   | nil =>
    rw [Fy]
    cases l with
    | nil => rw [Fy]; exact Nat.le_refl _
    | cons y l => rw [D7, List.length_append]; omega
   | cons z r =>
    cases l with
    | nil => cases hl
    | cons y l =>
     rw [D7, D7, List.length_append, List.length_append, List.length_cons, List.length_cons]
     rw [hl] at ih
     omega
theorem Fl (s : B9) : (pj (Dd s)).length ≤ s.length := Nat.le_trans (Ja _ _ fun x hx => Mf hx) (OT s)
theorem OR {s : B9} (h : s.length < 100000000) : DK s = some (pj (Dd s)) := by
 have hc := KD s
 have hp := IU s
 have hj := Fl s
 unfold DK
 rw [Ln (by omega), Option.bind_some, U6 (by omega), Option.bind_some]
 unfold D3
 have e1 : (Dd s).filter (fun x => !(x == [])) = Dd s := List.filter_eq_self.2 fun x hx => by
  have := (K2 hx).1
  simpa using this
 show (DW (QX 16 (Dd s).length) _ : Option B9).bind _ = _
 rw [GB (by omega) (by omega), BF, UZ (by show (Dd s).length < _; omega), Option.bind_some]
 show ((DW (K8 ((Dd s).filter fun x => !(x == [])) [47]) (some (Lib.join ((Dd s).filter fun x => !(x == [])) [47])) : Option B9)).bind _ = _
 rw [e1]
 have : K8 (Dd s) [47] = true := decide_eq_true ⟨by omega, by show (pj (Dd s)).length ≤ _; omega⟩
 rw [this, BF]
 rfl
theorem parts_eq {s : B9} (h : s.length < 100000000) : C7 s = some (Dd s) := by
 unfold C7
 have := Fl s
 rw [OR h, Option.bind_some, Ln (by omega), OF _ fun x hx => K2 hx]
 rfl
theorem QW {s : B9} (h : s.length < 100000000) : CK s = some (Dd s) := by
 have hc := KD s
 unfold CK
 rw [Se (by omega), Option.bind_some]
 refine W.eq (W.bind ?_)
 refine (W.list (l := Dv s) (enc := fun (a : List B9) i => (a, (i : Int))) (P := fun a i => a = ((Dv s).take i).filter fun x => !(x == [46])) (Q := fun r => r = Dd s) ?_ ?_ [] (by simp)).mono ?_
 ·rintro a rfl
  rw [C1, AQ, if_neg (by omega)]
  exact W.ret (by rw [List.take_length]; rfl)
 ·rintro a i hi rfl
  have hlen : (((Dv s).take i).filter fun x => !(x == [46])).length ≤ i := Nat.le_trans (List.length_filter_le _ _) (by rw [List.length_take]; omega)
  rw [C1, AQ, if_pos (by omega), BO hi, Option.bind_some]
  cases hd : ((Dv s)[i] == ([46] : B9)) with
  | true =>
   rw [Bool.not_true, Ay, Option.bind_some, D5 (by omega)]
   refine W.ret ⟨_, rfl, ?_⟩
   rw [B0 (List.getElem?_eq_getElem hi), List.filter_append]
   simp [hd]
  | false =>
   rw [Bool.not_false, BE, Option.bind_some, GB (by simp; omega) (by simp; omega), BF, Option.bind_some, D5 (by omega)]
   refine W.ret ⟨_, rfl, ?_⟩
   rw [B0 (List.getElem?_eq_getElem hi), List.filter_append]
   simp [hd]
 ·rintro r rfl
  exact W.ret rfl
theorem Qp {a b : List B9} (hl : a.length = b.length) (ha : a.length < 1000000) {step : Int → Option (Int ⊕ (Unit ⊕ Bool))}
  (hs : ∀ s, step s = Ax (decide (s < (a.length : Int))) ((Em a s).bind fun x3 => (Em b s).bind fun x4 => Ax (!(x3 == x4)) (some (.inr (.inr false))) (some (.inl (IntKind.i64.wrap (s + 1))))) (some (.inr (.inl ())))) :
  ((loop step (0 : Int)).bind fun o1 => (match o1 with | .inl _ => some true | .inr x2 => some x2)) = some (a == b) := by
 refine W.eq (W.bind ?_)
 refine W.list (l := a) (enc := fun (_ : Unit) i => (i : Int)) (P := fun _ i => a.take i = b.take i) ?_ ?_ () (by simp)
 ·intro _ h
  rw [hs, AQ, if_neg (by omega)]
  refine W.ret (W.ret ?_)
  rw [List.take_length, hl, List.take_length] at h
  rw [h]; simp
 ·intro _ i hi h
  have hb : i < b.length := by omega
  rw [hs, AQ, if_pos (by omega), BO hi, Option.bind_some, BO hb, Option.bind_some]
  by_cases he : a[i] = b[i]
  ·rw [beq_iff_eq.2 he, Bool.not_true, Ay, D5 (by omega)]
   refine W.ret ⟨(), rfl, ?_⟩
   rw [B0 (List.getElem?_eq_getElem hi), B0 (List.getElem?_eq_getElem hb), h, he]
  ·rw [beq_eq_false_iff_ne.2 he, Bool.not_false, BE]
   refine W.ret (W.ret ?_)
   symm
   rw [beq_eq_false_iff_ne]
   rintro rfl
   exact he rfl
theorem LD (a b : List B9) (ha : a.length < 1000000) : CL a b = some (a == b) := by
 unfold CL
 rw [Sg]
 by_cases h : (a.length : Int) = (b.length : Int)
 ·rw [if_pos h]; exact Qp (by omega) ha fun s => rfl
 ·rw [if_neg h]
  congr 1
  symm
  rw [beq_eq_false_iff_ne]
  rintro rfl
  exact h rfl
theorem Q2 (a b : List B9) (ha : a.length < 1000000) : CA a b = some (a == b) := LD a b ha
end Go.Av.L
