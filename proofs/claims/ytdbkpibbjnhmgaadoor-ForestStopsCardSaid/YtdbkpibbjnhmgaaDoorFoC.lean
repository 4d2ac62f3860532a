/-
 A part.
-/
import Derived.Test.YtdbkpibbjnhmgaaDoorFoB
namespace Go.Av.L
open Go.Av Go.Lib
set_option linter.unusedVariables false
set_option linter.unusedSimpArgs false
theorem WV {p : Bu → Bool} {step : Int → Option (Int ⊕ (Unit ⊕ Int))} {l : List Bu} (hl : l.length < 900000000)
  (hs : ∀ s, step s = BG (decide (s < (l.length : Int))) ((F5 l s).bind fun x => BG (p x) (some (.inr (.inr s))) (some (.inl (IntKind.i64.wrap (s + 1))))) (some (.inr (.inl ())))) :
  (loop step 0 = some (.inl ()) ∧ ∀ x ∈ l, p x = false) ∨ ∃ (k : Nat) (x : Bu), loop step 0 = some (.inr (k : Int)) ∧ l[k]? = some x ∧ p x = true ∧ ∀ y ∈ l.take k, p y = false := by
 have key : ∀ (n i : Nat), i + n = l.length → (∀ y ∈ l.take i, p y = false) → (loop step (i : Int) = some (.inl ()) ∧ ∀ x ∈ l, p x = false) ∨ ∃ (k : Nat) (x : Bu), loop step (i : Int) = some (.inr (k : Int)) ∧ l[k]? = some x ∧ p x = true ∧ ∀ y ∈ l.take k, p y = false := by
  intro n
  induction n with
  | zero =>
   intro i hi ht
   refine .inl ⟨Bl ?_, fun x hx => ht x (by rw [List.take_of_length_le (by omega)]; exact hx)⟩
   rw [hs, AU, if_neg (by omega)]
  | succ n ih =>
   intro i hi ht
   have hlt : i < l.length := by omega
   cases hp : p l[i] with
   | true =>
    refine .inr ⟨i, l[i], Bl ?_, List.getElem?_eq_getElem hlt, hp, ht⟩
    rw [hs, AU, if_pos (by omega), CD hlt, Option.bind_some, hp, Bj]
   | false =>
    have st : step (i : Int) = some (.inl ((i + 1 : Nat) : Int)) := by
     rw [hs, AU, if_pos (by omega), CD hlt, Option.bind_some, hp, BK, E6 (by omega)]
    rw [Dd st]
    refine ih (i + 1) (by omega) fun y hy => ?_
    rw [CL (List.getElem?_eq_getElem hlt), List.mem_append] at hy
    rcases hy with hy | hy
    ·exact ht y hy
    ·rw [List.mem_singleton.1 hy]; exact hp
 exact key l.length 0 (by omega) (fun y hy => by simp at hy)
theorem Vp {p : Bu → Bool} {step : List Bu × Int × Int → Option ((List Bu × Int × Int) ⊕ (List Bu × Int))} {l : List Bu} (hl : l.length < 900000000)
  (hs : ∀ xs i j, step (xs, i, j) = BG (decide (j < (xs.length : Int))) (((F5 xs j).bind fun x => BG (!p x) ((F5 xs i).bind fun _ => some (xs.set i.toNat x, IntKind.i64.wrap (i + 1))) (some (xs, i)) : Option (List Bu × Int)).bind fun (a, b) => some (.inl (a, b, IntKind.i64.wrap (j + 1)))) (some (.inr (xs, i)))) :
  ∀ (n j : Nat) (xs : List Bu) (i : Nat), j + n = l.length → i ≤ j → xs.length = l.length → xs.drop j = l.drop j → xs.take i = (l.take j).filter (fun x => !p x) →
   ∃ xs' i', loop step (xs, (i : Int), (j : Int)) = some (xs', ((i' : Nat) : Int)) ∧ xs'.length = l.length ∧ i' ≤ l.length ∧ xs'.take i' = l.filter fun x => !p x := by
 intro n
 induction n with
 | zero =>
  intro j xs i hj hi hx hd ht
  refine ⟨xs, i, Bl ?_, hx, by omega, ?_⟩
  ·rw [hs, AU, if_neg (by omega)]
  ·rw [ht, List.take_of_length_le (by omega)]
 | succ n ih =>
  intro j xs i hj hi hx hd ht
  have hlt : j < l.length := by omega
  have hlx : j < xs.length := by omega
  have e0 : xs[j] = l[j] := by
   have h1 := congrArg (fun z : List Bu => z[0]?) hd
   simp only [List.getElem?_drop, Nat.add_zero, List.getElem?_eq_getElem hlx, List.getElem?_eq_getElem hlt] at h1
   exact Option.some.inj h1
  have ed : xs.drop (j + 1) = l.drop (j + 1) := by
   have := congrArg (fun z : List Bu => z.drop 1) hd
   simpa [List.drop_drop] using this
  cases hp : p l[j] with
  | true =>
   have st : step (xs, (i : Int), (j : Int)) = some (.inl (xs, (i : Int), ((j + 1 : Nat) : Int))) := by
    rw [hs, AU, if_pos (by omega), CD hlx, Option.bind_some, e0, hp, Bool.not_true, BK, Option.bind_some, E6 (by omega)]
   rw [Dd st]
   refine ih (j + 1) xs i (by omega) (by omega) hx ed ?_
   rw [ht, CL (List.getElem?_eq_getElem hlt), List.filter_append]
   simp [hp]
  | false =>
   have hix : i < xs.length := by omega
   have st : step (xs, (i : Int), (j : Int)) = some (.inl (xs.set i l[j], ((i + 1 : Nat) : Int), ((j + 1 : Nat) : Int))) := by
    rw [hs, AU, if_pos (by omega), CD hlx, Option.bind_some, e0, hp, Bool.not_false, Bj, CD hix, Option.bind_some, Option.bind_some, E6 (by omega), E6 (by omega), Int.toNat_natCast]
   rw [Dd st]
   refine ih (j + 1) (xs.set i l[j]) (i + 1) (by omega) (by omega) (by simpa using hx) ?_ ?_
   ·rw [List.drop_set_of_lt (by omega)]; exact ed
   ·rw [CL (List.getElem?_eq_getElem hlt), List.filter_append, CL (x := l[j]) (by rw [List.getElem?_set_self hix]), List.take_set_of_le (Nat.le_refl _), ht]
    simp [hp]
theorem Sk {n i : Nat} (h : i ≤ n) : TX n (i : Int) = some i := by
 unfold TX
 rw [if_pos ⟨by omega, by rw [Int.toNat_natCast]; exact h⟩, Int.toNat_natCast]
theorem QR {xs : List Bu} {i : Nat} (h : i ≤ xs.length) : (E5 xs i).take i = xs.take i := by
 unfold E5
 rw [List.take_append_of_le_length (by rw [List.length_take]; omega), List.take_take, Nat.min_self]
theorem Rp {p : Bu → Bool} {ix : Option Int} {ixs : Int → Option (Int ⊕ (Unit ⊕ Int))} {step : List Bu × Int × Int → Option ((List Bu × Int × Int) ⊕ (List Bu × Int))} {l : List Bu} (hl : l.length < 900000000)
  (hi : ∀ s, ixs s = BG (decide (s < (l.length : Int))) ((F5 l s).bind fun x => BG (p x) (some (.inr (.inr s))) (some (.inl (IntKind.i64.wrap (s + 1))))) (some (.inr (.inl ()))))
  (hx : ix = (loop ixs (0 : Int)).bind fun o1 => (match o1 with | .inl _ => some (-1 : Int) | .inr x2 => some x2))
  (hs : ∀ xs i j, step (xs, i, j) = BG (decide (j < (xs.length : Int))) (((F5 xs j).bind fun x => BG (!p x) ((F5 xs i).bind fun _ => some (xs.set i.toNat x, IntKind.i64.wrap (i + 1))) (some (xs, i)) : Option (List Bu × Int)).bind fun (a, b) => some (.inl (a, b, IntKind.i64.wrap (j + 1)))) (some (.inr (xs, i)))) :
  (ix.bind fun x1 => BG (x1 == (-1)) (some l) ((loop step (l, x1, IntKind.i64.wrap (x1 + 1))).bind fun (x5, x6) => (TX x5.length x6).bind fun o3 => (IY (E5 x5 o3) none (some x6)).bind fun x12 => some x12)) = some (l.filter fun x => !p x) := by
 rcases WV hl hi with ⟨h1, h2⟩ | ⟨k, x, h1, h2, h3, h4⟩
 ·rw [hx, h1]
  simp only [Option.bind_some]
  rw [show ((-1 : Int) == -1) = true from rfl, Bj]
  congr 1
  rw [List.filter_eq_self.2 fun x hx => by rw [h2 x hx]; rfl]
 ·rw [hx, h1]
  simp only [Option.bind_some]
  have hk := (List.getElem?_eq_some_iff.1 h2).1
  rw [beq_eq_false_iff_ne.2 (show (k : Int) ≠ -1 by omega), BK, E6 (by omega)]
  obtain ⟨xs', i', e1, e2, e3, e4⟩ := Vp (p := p) hl hs (l.length - (k + 1)) (k + 1) l k (by omega) (by omega) rfl rfl (by
   rw [CL h2, List.filter_append, List.filter_eq_self.2 fun y hy => by rw [h4 y hy]; rfl]
   simp [h3])
  rw [e1]
  simp only [Option.bind_some]
  rw [Sk (by omega)]
  simp only [Option.bind_some]
  rw [PD (by rw [Eg (by omega)]; omega), Option.bind_some, QR (by omega), e4]
def JB (s : Bu) : List Bu := (DO s).filter fun x => !(x == [46])
theorem M6 {s x : Bu} (h : x ∈ JB s) : N6 x := Lj (List.mem_filter.1 h).1
theorem PQ (s : Bu) : (JB s).length ≤ s.length + 1 := Nat.le_trans (List.length_filter_le _ _) (Jj s)
theorem T1 {l : List Bu} (hl : l.length < 900000000) : Az l = some (l.filter fun x => !(x == [46])) :=
 Rp (p := fun x => x == [46]) (ix := A8 l) (ixs := BQ l) (step := BP) hl (fun s => rfl) rfl (fun xs i j => rfl)
theorem Tm {l : List Bu} (hl : l.length < 900000000) : Aq l = some (l.filter fun x => !(x == [])) :=
 Rp (p := fun x => x == []) (ix := Ax l) (ixs := BN l) (step := BJ) hl (fun s => rfl) rfl (fun xs i j => rfl)
theorem Il (p : Bu → Bool) : ∀ (l : List Bu), (∀ x ∈ l, N6 x) → (pj (l.filter p)).length ≤ (pj l).length
 | [], _ => by simp
 | x :: l, h => by
  have ih := Il p l fun y hy => h y (by simp [hy])
  have cons_le : ∀ (x : Bu) (l : List Bu), (pj l).length ≤ (pj (x :: l)).length := fun x l => by
   cases l with
   | nil => simp [Hb]
   | cons y l => rw [Df, List.length_append, List.length_cons]; omega
  rw [List.filter_cons]
  cases p x with
  | false => exact Nat.le_trans ih (cons_le x l)
  | true =>
   rw [if_pos rfl]
   cases hl : l.filter p with
   | nil =>
    rw [FT]
    cases l with
    | nil => rw [FT]; exact Nat.le_refl _
    | cons y l => rw [Df, List.length_append]; omega
   | cons z r =>
    cases l with
    | nil => cases hl
    | cons y l =>
     rw [Df, Df, List.length_append, List.length_append, List.length_cons, List.length_cons]
     rw [hl] at ih
     omega
theorem Hn (s : Bu) : (pj (JB s)).length ≤ s.length := Nat.le_trans (Il _ _ fun x hx => Lj hx) (Nc s)
theorem Rv {s : Bu} (h : s.length < 100000000) : Dl s = some (pj (JB s)) := by
 have hc := Jj s
 have hp := PQ s
 have hj := Hn s
 unfold Dl
 rw [Ke (by omega), Option.bind_some, T1 (by omega), Option.bind_some]
 unfold De
 have e1 : (JB s).filter (fun x => !(x == [])) = JB s := List.filter_eq_self.2 fun x hx => by
  have := (M6 hx).1
  simpa using this
 show (D4 (QZ 16 (JB s).length) _ : Option Bu).bind _ = _
 rw [Gi (by omega) (by omega), BD, Tm (by show (JB s).length < _; omega), Option.bind_some]
 show ((D4 (KT ((JB s).filter fun x => !(x == [])) [47]) (some (Lib.join ((JB s).filter fun x => !(x == [])) [47])) : Option Bu)).bind _ = _
 rw [e1]
 have : KT (JB s) [47] = true := decide_eq_true ⟨by omega, by show (pj (JB s)).length ≤ _; omega⟩
 rw [this, BD]
 rfl
theorem parts_eq {s : Bu} (h : s.length < 100000000) : C6 s = some (JB s) := by
 unfold C6
 have := Hn s
 rw [Rv h, Option.bind_some, Ke (by omega), Nw _ fun x hx => M6 hx]
 rfl
theorem S7 {s : Bu} (h : s.length < 100000000) : CR s = some (JB s) := by
 have hc := Jj s
 unfold CR
 rw [Qn (by omega), Option.bind_some]
 refine W.eq (W.bind ?_)
 refine (W.list (l := DO s) (enc := fun (a : List Bu) i => (a, (i : Int))) (P := fun a i => a = ((DO s).take i).filter fun x => !(x == [46])) (Q := fun r => r = JB s) ?_ ?_ [] (by simp)).mono ?_
 ·rintro a rfl
  rw [CU, AU, if_neg (by omega)]
  exact W.ret (by rw [List.take_length]; rfl)
 ·rintro a i hi rfl
  have hlen : (((DO s).take i).filter fun x => !(x == [46])).length ≤ i := Nat.le_trans (List.length_filter_le _ _) (by rw [List.length_take]; omega)
  rw [CU, AU, if_pos (by omega), CD hi, Option.bind_some]
  cases hd : ((DO s)[i] == ([46] : Bu)) with
  | true =>
   rw [Bool.not_true, BK, Option.bind_some, E6 (by omega)]
   refine W.ret ⟨_, rfl, ?_⟩
   rw [CL (List.getElem?_eq_getElem hi), List.filter_append]
   simp [hd]
  | false =>
   rw [Bool.not_false, Bj, Option.bind_some, Gi (by simp; omega) (by simp; omega), BD, Option.bind_some, E6 (by omega)]
   refine W.ret ⟨_, rfl, ?_⟩
   rw [CL (List.getElem?_eq_getElem hi), List.filter_append]
   simp [hd]
 ·rintro r rfl
  exact W.ret rfl
theorem Py {a b : List Bu} (hl : a.length = b.length) (ha : a.length < 1000000) {step : Int → Option (Int ⊕ (Unit ⊕ Bool))}
  (hs : ∀ s, step s = BG (decide (s < (a.length : Int))) ((F5 a s).bind fun x3 => (F5 b s).bind fun x4 => BG (!(x3 == x4)) (some (.inr (.inr false))) (some (.inl (IntKind.i64.wrap (s + 1))))) (some (.inr (.inl ())))) :
  ((loop step (0 : Int)).bind fun o1 => (match o1 with | .inl _ => some true | .inr x2 => some x2)) = some (a == b) := by
 refine W.eq (W.bind ?_)
 refine W.list (l := a) (enc := fun (_ : Unit) i => (i : Int)) (P := fun _ i => a.take i = b.take i) ?_ ?_ () (by simp)
 ·intro _ h
  rw [hs, AU, if_neg (by omega)]
  refine W.ret (W.ret ?_)
  rw [List.take_length, hl, List.take_length] at h
  rw [h]; simp
 ·intro _ i hi h
  have hb : i < b.length := by omega
  rw [hs, AU, if_pos (by omega), CD hi, Option.bind_some, CD hb, Option.bind_some]
  by_cases he : a[i] = b[i]
  ·rw [beq_iff_eq.2 he, Bool.not_true, BK, E6 (by omega)]
   refine W.ret ⟨(), rfl, ?_⟩
   rw [CL (List.getElem?_eq_getElem hi), CL (List.getElem?_eq_getElem hb), h, he]
  ·rw [beq_eq_false_iff_ne.2 he, Bool.not_false, Bj]
   refine W.ret (W.ret ?_)
   symm
   rw [beq_eq_false_iff_ne]
   rintro rfl
   exact he rfl
theorem RP (a b : List Bu) (ha : a.length < 1000000) : CQ a b = some (a == b) := by
 unfold CQ
 rw [Q9]
 by_cases h : (a.length : Int) = (b.length : Int)
 ·rw [if_pos h]; exact Py (by omega) ha fun s => rfl
 ·rw [if_neg h]
  congr 1
  symm
  rw [beq_eq_false_iff_ne]
  rintro rfl
  exact h rfl
end Go.Av.L
