/-
 A part.
-/
import Derived.Test.YtdbkpibbjnhmgaaDoorFoB
namespace Go.Av.L
open Go.Av Go.Lib
set_option linter.unusedVariables false
set_option linter.unusedSimpArgs false
theorem X3 {p : Bw → Bool} {step : Int → Option (Int ⊕ (Unit ⊕ Int))} {l : List Bw} (hl : l.length < 900000000)
  (hs : ∀ s, step s = BM (decide (s < (l.length : Int))) ((Fv l s).bind fun x => BM (p x) (some (.inr (.inr s))) (some (.inl (IntKind.i64.wrap (s + 1))))) (some (.inr (.inl ())))) :
  (loop step 0 = some (.inl ()) ∧ ∀ x ∈ l, p x = false) ∨ ∃ (k : Nat) (x : Bw), loop step 0 = some (.inr (k : Int)) ∧ l[k]? = some x ∧ p x = true ∧ ∀ y ∈ l.take k, p y = false := by
 have key : ∀ (n i : Nat), i + n = l.length → (∀ y ∈ l.take i, p y = false) → (loop step (i : Int) = some (.inl ()) ∧ ∀ x ∈ l, p x = false) ∨ ∃ (k : Nat) (x : Bw), loop step (i : Int) = some (.inr (k : Int)) ∧ l[k]? = some x ∧ p x = true ∧ ∀ y ∈ l.take k, p y = false := by
  intro n
  induction n with
  | zero =>
   intro i hi ht
   refine .inl ⟨Ba ?_, fun x hx => ht x (by rw [List.take_of_length_le (by omega)]; exact hx)⟩
   rw [hs, AR, if_neg (by omega)]
  | succ n ih =>
   intro i hi ht
   have hlt : i < l.length := by omega
   cases hp : p l[i] with
   | true =>
    refine .inr ⟨i, l[i], Ba ?_, List.getElem?_eq_getElem hlt, hp, ht⟩
    rw [hs, AR, if_pos (by omega), Br hlt, Option.bind_some, hp, BY]
   | false =>
    have st : step (i : Int) = some (.inl ((i + 1 : Nat) : Int)) := by
     rw [hs, AR, if_pos (by omega), Br hlt, Option.bind_some, hp, A7, Eh (by omega)]
    rw [Cx st]
    refine ih (i + 1) (by omega) fun y hy => ?_
    rw [CH (List.getElem?_eq_getElem hlt), List.mem_append] at hy
    rcases hy with hy | hy
    ·exact ht y hy
    ·rw [List.mem_singleton.1 hy]; exact hp
 exact key l.length 0 (by omega) (fun y hy => by simp at hy)
theorem XS {p : Bw → Bool} {step : List Bw × Int × Int → Option ((List Bw × Int × Int) ⊕ (List Bw × Int))} {l : List Bw} (hl : l.length < 900000000)
  (hs : ∀ xs i j, step (xs, i, j) = BM (decide (j < (xs.length : Int))) (((Fv xs j).bind fun x => BM (!p x) ((Fv xs i).bind fun _ => some (xs.set i.toNat x, IntKind.i64.wrap (i + 1))) (some (xs, i)) : Option (List Bw × Int)).bind fun (a, b) => some (.inl (a, b, IntKind.i64.wrap (j + 1)))) (some (.inr (xs, i)))) :
  ∀ (n j : Nat) (xs : List Bw) (i : Nat), j + n = l.length → i ≤ j → xs.length = l.length → xs.drop j = l.drop j → xs.take i = (l.take j).filter (fun x => !p x) →
   ∃ xs' i', loop step (xs, (i : Int), (j : Int)) = some (xs', ((i' : Nat) : Int)) ∧ xs'.length = l.length ∧ i' ≤ l.length ∧ xs'.take i' = l.filter fun x => !p x := by
 intro n
 induction n with
 | zero =>
  intro j xs i hj hi hx hd ht
  refine ⟨xs, i, Ba ?_, hx, by omega, ?_⟩
  ·rw [hs, AR, if_neg (by omega)]
  ·rw [ht, List.take_of_length_le (by omega)]
 | succ n ih =>
  intro j xs i hj hi hx hd ht
  have hlt : j < l.length := by omega
  have hlx : j < xs.length := by omega
  have e0 : xs[j] = l[j] := by
   have h1 := congrArg (fun z : List Bw => z[0]?) hd
   simp only [List.getElem?_drop, Nat.add_zero, List.getElem?_eq_getElem hlx, List.getElem?_eq_getElem hlt] at h1
   exact Option.some.inj h1
  have ed : xs.drop (j + 1) = l.drop (j + 1) := by
   have := congrArg (fun z : List Bw => z.drop 1) hd
   simpa [List.drop_drop] using this
  cases hp : p l[j] with
  | true =>
   have st : step (xs, (i : Int), (j : Int)) = some (.inl (xs, (i : Int), ((j + 1 : Nat) : Int))) := by
    rw [hs, AR, if_pos (by omega), Br hlx, Option.bind_some, e0, hp, Bool.not_true, A7, Option.bind_some, Eh (by omega)]
   rw [Cx st]
   refine ih (j + 1) xs i (by omega) (by omega) hx ed ?_
   rw [ht, CH (List.getElem?_eq_getElem hlt), List.filter_append]
   simp [hp]
  | false =>
   have hix : i < xs.length := by omega
   have st : step (xs, (i : Int), (j : Int)) = some (.inl (xs.set i l[j], ((i + 1 : Nat) : Int), ((j + 1 : Nat) : Int))) := by
    rw [hs, AR, if_pos (by omega), Br hlx, Option.bind_some, e0, hp, Bool.not_false, BY, Br hix, Option.bind_some, Option.bind_some, Eh (by omega), Eh (by omega), Int.toNat_natCast]
   rw [Cx st]
   refine ih (j + 1) (xs.set i l[j]) (i + 1) (by omega) (by omega) (by simpa using hx) ?_ ?_
   ·rw [List.drop_set_of_lt (by omega)]; exact ed
   ·rw [CH (List.getElem?_eq_getElem hlt), List.filter_append, CH (x := l[j]) (by rw [List.getElem?_set_self hix]), List.take_set_of_le (Nat.le_refl _), ht]
    simp [hp]
theorem Tm {n i : Nat} (h : i ≤ n) : U1 n (i : Int) = some i := by
 unfold U1
 rw [if_pos ⟨by omega, by rw [Int.toNat_natCast]; exact h⟩, Int.toNat_natCast]
theorem Rl {xs : List Bw} {i : Nat} (h : i ≤ xs.length) : (FT xs i).take i = xs.take i := by
 unfold FT
 rw [List.take_append_of_le_length (by rw [List.length_take]; omega), List.take_take, Nat.min_self]
theorem TS {p : Bw → Bool} {ix : Option Int} {ixs : Int → Option (Int ⊕ (Unit ⊕ Int))} {step : List Bw × Int × Int → Option ((List Bw × Int × Int) ⊕ (List Bw × Int))} {l : List Bw} (hl : l.length < 900000000)
  (hi : ∀ s, ixs s = BM (decide (s < (l.length : Int))) ((Fv l s).bind fun x => BM (p x) (some (.inr (.inr s))) (some (.inl (IntKind.i64.wrap (s + 1))))) (some (.inr (.inl ()))))
  (hx : ix = (loop ixs (0 : Int)).bind fun o1 => (match o1 with | .inl _ => some (-1 : Int) | .inr x2 => some x2))
  (hs : ∀ xs i j, step (xs, i, j) = BM (decide (j < (xs.length : Int))) (((Fv xs j).bind fun x => BM (!p x) ((Fv xs i).bind fun _ => some (xs.set i.toNat x, IntKind.i64.wrap (i + 1))) (some (xs, i)) : Option (List Bw × Int)).bind fun (a, b) => some (.inl (a, b, IntKind.i64.wrap (j + 1)))) (some (.inr (xs, i)))) :
  (ix.bind fun x1 => BM (x1 == (-1)) (some l) ((loop step (l, x1, IntKind.i64.wrap (x1 + 1))).bind fun (x5, x6) => (U1 x5.length x6).bind fun o3 => (Jg (FT x5 o3) none (some x6)).bind fun x12 => some x12)) = some (l.filter fun x => !p x) := by
 rcases X3 hl hi with ⟨h1, h2⟩ | ⟨k, x, h1, h2, h3, h4⟩
 ·rw [hx, h1]
  simp only [Option.bind_some]
  rw [show ((-1 : Int) == -1) = true from rfl, BY]
  congr 1
  rw [List.filter_eq_self.2 fun x hx => by rw [h2 x hx]; rfl]
 ·rw [hx, h1]
  simp only [Option.bind_some]
  have hk := (List.getElem?_eq_some_iff.1 h2).1
  rw [beq_eq_false_iff_ne.2 (show (k : Int) ≠ -1 by omega), A7, Eh (by omega)]
  obtain ⟨xs', i', e1, e2, e3, e4⟩ := XS (p := p) hl hs (l.length - (k + 1)) (k + 1) l k (by omega) (by omega) rfl rfl (by
   rw [CH h2, List.filter_append, List.filter_eq_self.2 fun y hy => by rw [h4 y hy]; rfl]
   simp [h3])
  rw [e1]
  simp only [Option.bind_some]
  rw [Tm (by omega)]
  simp only [Option.bind_some]
  rw [RA (by rw [Ey (by omega)]; omega), Option.bind_some, Rl (by omega), e4]
def D1 (s : Bw) : List Bw := (Di s).filter fun x => !(x == [46])
theorem JV {s x : Bw} (h : x ∈ D1 s) : Nz x := Mu (List.mem_filter.1 h).1
theorem LC (s : Bw) : (D1 s).length ≤ s.length + 1 := Nat.le_trans (List.length_filter_le _ _) (KQ s)
theorem Vu {l : List Bw} (hl : l.length < 900000000) : BP l = some (l.filter fun x => !(x == [46])) :=
 TS (p := fun x => x == [46]) (ix := BQ l) (ixs := Be l) (step := Bc) hl (fun s => rfl) rfl (fun xs i j => rfl)
theorem VA {l : List Bw} (hl : l.length < 900000000) : BC l = some (l.filter fun x => !(x == [])) :=
 TS (p := fun x => x == []) (ix := BI l) (ixs := BX l) (step := BW) hl (fun s => rfl) rfl (fun xs i j => rfl)
theorem Jy (p : Bw → Bool) : ∀ (l : List Bw), (∀ x ∈ l, Nz x) → (pj (l.filter p)).length ≤ (pj l).length
 | [], _ => by simp
 | x :: l, h => by
  have ih := Jy p l fun y hy => h y (by simp [hy])
  have cons_le : ∀ (x : Bw) (l : List Bw), (pj l).length ≤ (pj (x :: l)).length := fun x l => by
   cases l with
   | nil => simp [G6]
   | cons y l => rw [Dx, List.length_append, List.length_cons]; omega
  rw [List.filter_cons]
  cases p x with
  | false => exact Nat.le_trans ih (cons_le x l)
  | true =>
   rw [if_pos rfl]
   cases hl : l.filter p with
   | nil =>
    rw [Fh]
    cases l with
    | nil => rw [Fh]; exact Nat.le_refl _
    | cons y l => rw [Dx, List.length_append]; omega
   | cons z r =>
    cases l with
    | nil => cases hl
    | cons y l =>
     rw [Dx, Dx, List.length_append, List.length_append, List.length_cons, List.length_cons]
     rw [hl] at ih
     omega
theorem El (s : Bw) : (pj (D1 s)).length ≤ s.length := Nat.le_trans (Jy _ _ fun x hx => Mu hx) (OZ s)
theorem OM {s : Bw} (h : s.length < 100000000) : DH s = some (pj (D1 s)) := by
 have hc := KQ s
 have hp := LC s
 have hj := El s
 unfold DH
 rw [Ln (by omega), Option.bind_some, Vu (by omega), Option.bind_some]
 unfold Dw
 have e1 : (D1 s).filter (fun x => !(x == [])) = D1 s := List.filter_eq_self.2 fun x hx => by
  have := (JV hx).1
  simpa using this
 show (Dm (QY 16 (D1 s).length) _ : Option Bw).bind _ = _
 rw [FB (by omega) (by omega), Ao, VA (by show (D1 s).length < _; omega), Option.bind_some]
 show ((Dm (Lt ((D1 s).filter fun x => !(x == [])) [47]) (some (Lib.join ((D1 s).filter fun x => !(x == [])) [47])) : Option Bw)).bind _ = _
 rw [e1]
 have : Lt (D1 s) [47] = true := decide_eq_true ⟨by omega, by show (pj (D1 s)).length ≤ _; omega⟩
 rw [this, Ao]
 rfl
theorem parts_eq {s : Bw} (h : s.length < 100000000) : C0 s = some (D1 s) := by
 unfold C0
 have := El s
 rw [OM h, Option.bind_some, Ln (by omega), Lw _ fun x hx => JV hx]
 rfl
theorem Tj {s : Bw} (h : s.length < 100000000) : Cn s = some (D1 s) := by
 have hc := KQ s
 unfold Cn
 rw [SS (by omega), Option.bind_some]
 refine W.eq (W.bind ?_)
 refine (W.list (l := Di s) (enc := fun (a : List Bw) i => (a, (i : Int))) (P := fun a i => a = ((Di s).take i).filter fun x => !(x == [46])) (Q := fun r => r = D1 s) ?_ ?_ [] (by simp)).mono ?_
 ·rintro a rfl
  rw [Cu, AR, if_neg (by omega)]
  exact W.ret (by rw [List.take_length]; rfl)
 ·rintro a i hi rfl
  have hlen : (((Di s).take i).filter fun x => !(x == [46])).length ≤ i := Nat.le_trans (List.length_filter_le _ _) (by rw [List.length_take]; omega)
  rw [Cu, AR, if_pos (by omega), Br hi, Option.bind_some]
  cases hd : ((Di s)[i] == ([46] : Bw)) with
  | true =>
   rw [Bool.not_true, A7, Option.bind_some, Eh (by omega)]
   refine W.ret ⟨_, rfl, ?_⟩
   rw [CH (List.getElem?_eq_getElem hi), List.filter_append]
   simp [hd]
  | false =>
   rw [Bool.not_false, BY, Option.bind_some, FB (by simp; omega) (by simp; omega), Ao, Option.bind_some, Eh (by omega)]
   refine W.ret ⟨_, rfl, ?_⟩
   rw [CH (List.getElem?_eq_getElem hi), List.filter_append]
   simp [hd]
 ·rintro r rfl
  exact W.ret rfl
theorem RO {a b : List Bw} (hl : a.length = b.length) (ha : a.length < 1000000) {step : Int → Option (Int ⊕ (Unit ⊕ Bool))}
  (hs : ∀ s, step s = BM (decide (s < (a.length : Int))) ((Fv a s).bind fun x3 => (Fv b s).bind fun x4 => BM (!(x3 == x4)) (some (.inr (.inr false))) (some (.inl (IntKind.i64.wrap (s + 1))))) (some (.inr (.inl ())))) :
  ((loop step (0 : Int)).bind fun o1 => (match o1 with | .inl _ => some true | .inr x2 => some x2)) = some (a == b) := by
 refine W.eq (W.bind ?_)
 refine W.list (l := a) (enc := fun (_ : Unit) i => (i : Int)) (P := fun _ i => a.take i = b.take i) ?_ ?_ () (by simp)
 ·intro _ h
  rw [hs, AR, if_neg (by omega)]
  refine W.ret (W.ret ?_)
  rw [List.take_length, hl, List.take_length] at h
  rw [h]; simp
 ·intro _ i hi h
  have hb : i < b.length := by omega
  rw [hs, AR, if_pos (by omega), Br hi, Option.bind_some, Br hb, Option.bind_some]
  by_cases he : a[i] = b[i]
  ·rw [beq_iff_eq.2 he, Bool.not_true, A7, Eh (by omega)]
   refine W.ret ⟨(), rfl, ?_⟩
   rw [CH (List.getElem?_eq_getElem hi), CH (List.getElem?_eq_getElem hb), h, he]
  ·rw [beq_eq_false_iff_ne.2 he, Bool.not_false, BY]
   refine W.ret (W.ret ?_)
   symm
   rw [beq_eq_false_iff_ne]
   rintro rfl
   exact he rfl
theorem O2 (a b : List Bw) (ha : a.length < 1000000) : Cl a b = some (a == b) := by
 unfold Cl
 rw [TQ]
 by_cases h : (a.length : Int) = (b.length : Int)
 ·rw [if_pos h]; exact RO (by omega) ha fun s => rfl
 ·rw [if_neg h]
  congr 1
  symm
  rw [beq_eq_false_iff_ne]
  rintro rfl
  exact h rfl
theorem RL (a b : List Bw) (ha : a.length < 1000000) : B6 a b = some (a == b) := O2 a b ha
end Go.Av.L
