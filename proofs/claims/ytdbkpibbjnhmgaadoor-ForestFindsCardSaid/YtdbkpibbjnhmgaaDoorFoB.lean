/-
 A part.
-/
import Derived.Test.YtdbkpibbjnhmgaaDoorFoA
import Derived.Test.YtdbkpibbjnhmgaaDoorK0
import Derived.Test.YtdbkpibbjnhmgaaDoorK1
import Derived.Test.YtdbkpibbjnhmgaaDoorK2
namespace Go.Av.L
open Go.Av Go.Lib
set_option linter.unusedVariables false
set_option linter.unusedSimpArgs false
theorem Ht : ∀ (x : B9), Lib.indexByte x 47 = if Bu x < x.length then (Bu x : Int) else -1
 | [] => rfl
 | b :: t => by
  have ih := Ht t
  have hl := K1 t
  unfold Lib.indexByte Bu
  by_cases hb : b = 47
  ·subst hb; simp
  ·rw [if_neg hb, List.length_cons]
   have e : (b == 47) = false := beq_eq_false_iff_ne.2 hb
   by_cases h : Bu t < t.length
   ·rw [if_pos h] at ih
    have e2 : ((Bu t : Int) == -1) = false := beq_eq_false_iff_ne.2 (by omega)
    rw [if_pos (show Bu t + 1 < t.length + 1 by omega), ih]
    simp [e, e2]
   ·rw [if_neg h] at ih
    rw [if_neg (show ¬ Bu t + 1 < t.length + 1 by omega), ih]
    simp [e]
theorem K6 (x : B9) : Lib.index x [47] = if Bu x < x.length then (Bu x : Int) else -1 := by rw [Lib.index_one, Ht]
theorem Ou {acc : List B9} {v : B9} (ha : acc.length < 1000000000) : CV acc v = some (.inl (acc ++ (bif v == [] then [] else [v]))) := by
 rw [CV]
 cases (v == ([] : B9)) with
 | true => simp
 | false => simp [GB (b := 16) (n := acc.length + 1) (by omega) (by omega)]
theorem P7 {X σ ρ : Type} {Y : σ → X → Option (σ ⊕ ρ)} {s : σ} {x : X} {o : σ ⊕ ρ} (h : Y s x = some o) : Sy Y (.inl s) x = some (o.isLeft, o) := by
 show (Y s x).map _ = _
 rw [h]; rfl
theorem PX : ∀ (n : Nat) (x : B9) (acc : List B9), x.length ≤ n → acc.length + x.length < 900000000 →
  ∃ (x' : B9) (acc' : List B9), loop (Aq CV) (x, .inl acc) = some (.inl (x', .inl acc')) ∧ acc'.length + x'.length ≤ acc.length + x.length ∧ acc' ++ (bif x' == [] then [] else [x']) = acc ++ Dv x := by
 intro n
 induction n with
 | zero =>
  intro x acc hn hb
  have : x = [] := List.length_eq_zero_iff.1 (by omega)
  subst this
  exact ⟨[], acc, BY rfl, Nat.le_refl _, rfl⟩
 | succ n ih =>
  intro x acc hn hb
  have hle := K1 x
  by_cases hs : Bu x < x.length
  ·have e1 : IntKind.i64.wrap ((Bu x : Int) + 0) = (Bu x : Int) := Ur (by omega) (by omega)
   have e2 : IntKind.i64.wrap ((Bu x : Int) + 1) = ((Bu x + 1 : Nat) : Int) := by rw [Ur (by omega) (by omega)]; omega
   have step : Aq CV (x, .inl acc) = some (.inl (x.drop (Bu x + 1), .inl (acc ++ (bif x.take (Bu x) == [] then [] else [x.take (Bu x)])))) := by
    rw [Aq, decide_eq_true (by omega), BF, K6, if_pos hs, AQ, if_neg (by omega), e1, S8 hle, Option.bind_some, P7 (Ou (by omega)), Option.bind_some]
    dsimp only
    rw [e2, TR (by omega)]
    rfl
   obtain ⟨x', acc', h1, h2, h3⟩ := ih (x.drop (Bu x + 1)) (acc ++ (bif x.take (Bu x) == [] then [] else [x.take (Bu x)])) (by rw [List.length_drop]; omega) (by
    rw [List.length_append, List.length_drop]
    have : (bif x.take (Bu x) == [] then ([] : List B9) else [x.take (Bu x)]).length ≤ 1 := by cases (x.take (Bu x) == []) <;> simp
    omega)
   refine ⟨x', acc', by rw [CR step]; exact h1, ?_, by rw [h3, List.append_assoc, ← Fm]⟩
   rw [List.length_append, List.length_drop] at h2
   have : (bif x.take (Bu x) == [] then ([] : List B9) else [x.take (Bu x)]).length ≤ 1 := by cases (x.take (Bu x) == []) <;> simp
   omega
  ·refine ⟨x, acc, BY ?_, Nat.le_refl _, ?_⟩
   ·rw [Aq, decide_eq_true (by omega), BF, K6, if_neg hs]; rfl
   ·have e : Bu x = x.length := by omega
    rw [Fm, e, List.take_length, List.drop_eq_nil_of_le (by omega), E0, List.append_nil]
theorem Ln {s : B9} (h : s.length < 900000000) : Dk s = some (Dv s) := by
 obtain ⟨x', acc', h1, h2, h3⟩ := PX s.length s [] (Nat.le_refl _) (by simpa using h)
 simp only [List.length_nil, Nat.zero_add] at h2
 unfold Dk Cw Cl B4
 simp only [Option.bind_some]
 rw [h1, Option.bind_some]
 dsimp only
 rw [P7 (Ou (by omega)), Option.bind_some]
 dsimp only
 rw [Option.bind_some, h3]
 rfl
theorem Ks : ∀ (l : List B9) (x : B9), l ≠ [] → pj (l ++ [x]) = pj l ++ 47 :: x
 | [], x, h => absurd rfl h
 | [y], x, _ => by rw [List.singleton_append, D7, Fy, Fy]
 | y :: z :: l, x, _ => by
  rw [List.cons_append, List.cons_append, D7, D7, ← List.cons_append, Ks (z :: l) x (by simp)]
  simp
theorem UQ {l : List B9} (h : ∀ x ∈ l, NV x) (hl : l ≠ []) : pj l ≠ [] := by
 match l, hl with
 | [x], _ => rw [Fy]; exact (h x (by simp)).1
 | x :: y :: l, _ => rw [D7]; simp
theorem Oo (p : B9) : ∀ (k i : Nat), i + k = p.length → p.length < 900000000 → loop (BR p) (i : Int) = some ((i + Bu (p.drop i) : Nat) : Int)
 | 0, i, h, hp => by
  refine BY ?_
  rw [BR, AQ, if_neg (by omega), List.drop_eq_nil_of_le (by omega)]
  rfl
 | k + 1, i, h, hp => by
  have hi : i < p.length := by omega
  rw [drop_cons hi, Bu]
  by_cases hb : p[i] = 47
  ·rw [if_pos hb]
   refine BY ?_
   rw [BR, AQ, if_pos (by omega), QS hi, hb]
   rfl
  ·rw [if_neg hb]
   have hne : ((p[i].toNat : Int) != 47) = true := by
    rw [bne_iff_ne]
    intro e
    exact hb (UInt8.toNat_inj.1 (by show p[i].toNat = 47; omega))
   have step : BR p (i : Int) = some (.inl ((i + 1 : Nat) : Int)) := by
    rw [BR, AQ, if_pos (by omega), QS hi, Option.bind_some, hne, Option.bind_some, BE, D5 (by omega)]
   rw [CR step, Oo p k (i + 1) (by omega) hp]
   congr 2
   omega
theorem Se {p : B9} (hp : p.length < 900000000) : Ce p = some (Dv p) := by
 have key : ∀ (n i : Nat) (acc : List B9), p.length + 1 - i ≤ n → i ≤ p.length + 1 → acc.length ≤ i → acc ++ Dv (p.drop i) = Dv p → loop (BU p) (acc, (i : Int)) = some (Dv p) := by
  intro n
  induction n with
  | zero =>
   intro i acc h1 h2 h3 h4
   refine BY ?_
   rw [BU, AQ, if_neg (by omega)]
   rw [List.drop_eq_nil_of_le (by omega), E0, List.append_nil] at h4
   rw [h4]
  | succ n ih =>
   intro i acc h1 h2 h3 h4
   by_cases hi : i < p.length
   ·have hle := K1 (p.drop i)
    rw [List.length_drop] at hle
    have hc := Fm (p.drop i)
    rw [List.drop_drop] at hc
    have step : BU p (acc, (i : Int)) = some (.inl (acc ++ (bif (p.drop i).take (Bu (p.drop i)) == [] then [] else [(p.drop i).take (Bu (p.drop i))]), ((i + Bu (p.drop i) + 1 : Nat) : Int))) := by
     rw [BU, AQ, if_pos (by omega), Oo p (p.length - i) i (by omega) hp, Option.bind_some, AQ]
     have e1 : IntKind.i64.wrap (((i + Bu (p.drop i) : Nat) : Int) + 1) = ((i + Bu (p.drop i) + 1 : Nat) : Int) := by rw [Ur (by omega) (by omega)]; omega
     by_cases hz : Bu (p.drop i) = 0
     ·rw [if_neg (by omega), Option.bind_some, e1, hz]
      simp
     ·rw [if_pos (by omega), Q4 (by omega) (by omega), Option.bind_some, GB (by simp; omega) (by simp; omega), BF, Option.bind_some, e1]
      have e2 : i + Bu (p.drop i) - i = Bu (p.drop i) := by omega
      have e3 : ((p.drop i).take (Bu (p.drop i)) == ([] : B9)) = false := by
       rw [beq_eq_false_iff_ne]
       intro e
       have := congrArg List.length e
       rw [List.length_take, List.length_drop] at this
       simp at this
       omega
      rw [e2, e3]; rfl
    rw [CR step]
    refine ih _ _ (by omega) (by omega) ?_ ?_
    ·rw [List.length_append]
     have : (bif (p.drop i).take (Bu (p.drop i)) == [] then ([] : List B9) else [(p.drop i).take (Bu (p.drop i))]).length ≤ 1 := by cases ((p.drop i).take (Bu (p.drop i)) == []) <;> simp
     omega
    ·rw [← h4, hc, List.append_assoc, Nat.add_assoc]
   ·refine BY ?_
    rw [BU, AQ, if_neg (by omega)]
    rw [List.drop_eq_nil_of_le (by omega), E0, List.append_nil] at h4
    rw [h4]
 unfold Ce
 rw [show (0 : Int) = ((0 : Nat) : Int) from rfl, key (p.length + 1) 0 [] (by omega) (by omega) (by simp) (by simp), Option.bind_some]
theorem S2 {l : List B9} (h : ∀ x ∈ l, NV x) (hl : l.length < 900000000) (hj : (pj l).length < 900000000) : Cs l = some (pj l) := by
 refine W.eq ?_
 unfold Cs
 refine W.bind ?_
 refine (W.list (l := l) (enc := fun (s : B9) i => (s, (i : Int))) (P := fun s i => s = pj (l.take i)) (Q := fun r => r = pj l) ?_ ?_ [] (by simp [HY])).mono ?_
 ·rintro s rfl
  rw [Ct, AQ, if_neg (by omega)]
  exact W.ret (by rw [List.take_length])
 ·rintro s i hi rfl
  have hx := h _ (List.getElem_mem hi)
  have ht := HI l (i + 1)
  have et : l.take (i + 1) = l.take i ++ [l[i]] := B0 (List.getElem?_eq_getElem hi)
  rw [et] at ht
  rw [Ct, AQ, if_pos (by omega), BO hi, Option.bind_some, beq_eq_false_iff_ne.2 hx.1, Ay]
  by_cases h0 : i = 0
  ·subst h0
   rw [List.take_zero, HY] at *
   rw [List.nil_append, Fy] at ht
   rw [show (!(([] : B9) == [])) = false from rfl, Ay, Option.bind_some, Option.bind_some, decide_eq_true (by simp; omega), BF, Option.bind_some, List.nil_append]
   refine W.ret ⟨pj (l.take 1), ?_, rfl⟩
   rw [et, List.nil_append, Fy]
   rfl
  ·have hne : l.take i ≠ [] := by
    intro e
    have := congrArg List.length e
    rw [List.length_take, List.length_nil] at this
    omega
   have hpn := UQ (l := l.take i) (fun x hx => h x (List.mem_of_mem_take hx)) hne
   rw [Ks _ _ hne, List.length_append, List.length_cons] at ht
   rw [beq_eq_false_iff_ne.2 hpn, Bool.not_false, BE, decide_eq_true (by simp; omega), BF, Option.bind_some, Option.bind_some, decide_eq_true (by simp; omega), BF, Option.bind_some, D5 (by omega)]
   refine W.ret ⟨pj (l.take (i + 1)), ?_, rfl⟩
   rw [et, Ks _ _ hne]
   simp
 ·rintro r rfl
  exact W.ret rfl
section
variable {K V : Type} [DecidableEq K]
theorem Pm (m : List (K × V)) (k : K) (v : V) (n : K) : Cb (EF m k v) n = if n = k then some v else Cb m n := by
 induction m with
 | nil => simp [EF, Cb]
 | cons p m ih =>
  obtain ⟨k', v'⟩ := p
  unfold EF
  by_cases h : k = k'
  ·subst h; simp only [if_true, Cb]; by_cases h2 : n = k <;> simp [h2]
  ·rw [if_neg h]; simp only [Cb, ih]
   by_cases h2 : n = k'
   ·subst h2; simp [Ne.symm h]
   ·simp [h2]
theorem Qw (m : List (K × V)) (k : K) (v : V) : (EF m k v).map Prod.fst = if k ∈ m.map Prod.fst then m.map Prod.fst else m.map Prod.fst ++ [k] := by
 induction m with
 | nil => simp [EF]
 | cons p m ih =>
  obtain ⟨k', v'⟩ := p
  unfold EF
  by_cases h : k = k'
  ·subst h; simp
  ·rw [if_neg h]; simp only [List.map_cons, ih, List.mem_cons, h, false_or]
   split <;> simp
theorem Pb {m : List (K × V)} (h : (m.map Prod.fst).Nodup) (k : K) (v : V) : ((EF m k v).map Prod.fst).Nodup := by
 rw [Qw]
 split
 ·exact h
 ·rename_i hk
  rw [List.nodup_append]
  exact ⟨h, by simp, fun a ha b hb => by simp at hb; subst hb; rintro rfl; exact hk ha⟩
end
end Go.Av.L
