/-
 A part.
-/
import Derived.Test.YtdbkpibbjnhmgaaDoorFoA
import Derived.Test.YtdbkpibbjnhmgaaDoorK0
import Derived.Test.YtdbkpibbjnhmgaaDoorK1
import Derived.Test.YtdbkpibbjnhmgaaDoorK2
namespace Go.Av.L
open Go.Av Go.Lib
set_option linter.unusedVariables false
set_option linter.unusedSimpArgs false
theorem G9 : ∀ (x : Bu), Lib.indexByte x 47 = if Ba x < x.length then (Ba x : Int) else -1
 | [] => rfl
 | b :: t => by
  have ih := G9 t
  have hl := KK t
  unfold Lib.indexByte Ba
  by_cases hb : b = 47
  ·subst hb; simp
  ·rw [if_neg hb, List.length_cons]
   have e : (b == 47) = false := beq_eq_false_iff_ne.2 hb
   by_cases h : Ba t < t.length
   ·rw [if_pos h] at ih
    have e2 : ((Ba t : Int) == -1) = false := beq_eq_false_iff_ne.2 (by omega)
    rw [if_pos (show Ba t + 1 < t.length + 1 by omega), ih]
    simp [e, e2]
   ·rw [if_neg h] at ih
    rw [if_neg (show ¬ Ba t + 1 < t.length + 1 by omega), ih]
    simp [e]
theorem Kv (x : Bu) : Lib.index x [47] = if Ba x < x.length then (Ba x : Int) else -1 := by rw [Lib.index_one, G9]
theorem NG {acc : List Bu} {v : Bu} (ha : acc.length < 1000000000) : B8 acc v = some (.inl (acc ++ (bif v == [] then [] else [v]))) := by
 rw [B8]
 cases (v == ([] : Bu)) with
 | true => simp
 | false => simp [Gi (b := 16) (n := acc.length + 1) (by omega) (by omega)]
theorem IZ {X σ ρ : Type} {Y : σ → X → Option (σ ⊕ ρ)} {s : σ} {x : X} {o : σ ⊕ ρ} (h : Y s x = some o) : M7 Y (.inl s) x = some (o.isLeft, o) := by
 show (Y s x).map _ = _
 rw [h]; rfl
theorem OP : ∀ (n : Nat) (x : Bu) (acc : List Bu), x.length ≤ n → acc.length + x.length < 900000000 →
  ∃ (x' : Bu) (acc' : List Bu), loop (Ah B8) (x, .inl acc) = some (.inl (x', .inl acc')) ∧ acc'.length + x'.length ≤ acc.length + x.length ∧ acc' ++ (bif x' == [] then [] else [x']) = acc ++ DO x := by
 intro n
 induction n with
 | zero =>
  intro x acc hn hb
  have : x = [] := List.length_eq_zero_iff.1 (by omega)
  subst this
  exact ⟨[], acc, Bl rfl, Nat.le_refl _, rfl⟩
 | succ n ih =>
  intro x acc hn hb
  have hle := KK x
  by_cases hs : Ba x < x.length
  ·have e1 : IntKind.i64.wrap ((Ba x : Int) + 0) = (Ba x : Int) := T0 (by omega) (by omega)
   have e2 : IntKind.i64.wrap ((Ba x : Int) + 1) = ((Ba x + 1 : Nat) : Int) := by rw [T0 (by omega) (by omega)]; omega
   have step : Ah B8 (x, .inl acc) = some (.inl (x.drop (Ba x + 1), .inl (acc ++ (bif x.take (Ba x) == [] then [] else [x.take (Ba x)])))) := by
    rw [Ah, decide_eq_true (by omega), BD, Kv, if_pos hs, AU, if_neg (by omega), e1, SV hle, Option.bind_some, IZ (NG (by omega)), Option.bind_some]
    dsimp only
    rw [e2, SH (by omega)]
    rfl
   obtain ⟨x', acc', h1, h2, h3⟩ := ih (x.drop (Ba x + 1)) (acc ++ (bif x.take (Ba x) == [] then [] else [x.take (Ba x)])) (by rw [List.length_drop]; omega) (by
    rw [List.length_append, List.length_drop]
    have : (bif x.take (Ba x) == [] then ([] : List Bu) else [x.take (Ba x)]).length ≤ 1 := by cases (x.take (Ba x) == []) <;> simp
    omega)
   refine ⟨x', acc', by rw [Dd step]; exact h1, ?_, by rw [h3, List.append_assoc, ← FC]⟩
   rw [List.length_append, List.length_drop] at h2
   have : (bif x.take (Ba x) == [] then ([] : List Bu) else [x.take (Ba x)]).length ≤ 1 := by cases (x.take (Ba x) == []) <;> simp
   omega
  ·refine ⟨x, acc, Bl ?_, Nat.le_refl _, ?_⟩
   ·rw [Ah, decide_eq_true (by omega), BD, Kv, if_neg hs]; rfl
   ·have e : Ba x = x.length := by omega
    rw [FC, e, List.take_length, List.drop_eq_nil_of_le (by omega), EY, List.append_nil]
theorem Ke {s : Bu} (h : s.length < 900000000) : DK s = some (DO s) := by
 obtain ⟨x', acc', h1, h2, h3⟩ := OP s.length s [] (Nat.le_refl _) (by simpa using h)
 simp only [List.length_nil, Nat.zero_add] at h2
 unfold DK CX CM Bi
 simp only [Option.bind_some]
 rw [h1, Option.bind_some]
 dsimp only
 rw [IZ (NG (by omega)), Option.bind_some]
 dsimp only
 rw [Option.bind_some, h3]
 rfl
theorem KN : ∀ (l : List Bu) (x : Bu), l ≠ [] → pj (l ++ [x]) = pj l ++ 47 :: x
 | [], x, h => absurd rfl h
 | [y], x, _ => by rw [List.singleton_append, Df, FT, FT]
 | y :: z :: l, x, _ => by
  rw [List.cons_append, List.cons_append, Df, Df, ← List.cons_append, KN (z :: l) x (by simp)]
  simp
theorem U7 {l : List Bu} (h : ∀ x ∈ l, N6 x) (hl : l ≠ []) : pj l ≠ [] := by
 match l, hl with
 | [x], _ => rw [FT]; exact (h x (by simp)).1
 | x :: y :: l, _ => rw [Df]; simp
theorem Ns (p : Bu) : ∀ (k i : Nat), i + k = p.length → p.length < 900000000 → loop (BC p) (i : Int) = some ((i + Ba (p.drop i) : Nat) : Int)
 | 0, i, h, hp => by
  refine Bl ?_
  rw [BC, AU, if_neg (by omega), List.drop_eq_nil_of_le (by omega)]
  rfl
 | k + 1, i, h, hp => by
  have hi : i < p.length := by omega
  rw [drop_cons hi, Ba]
  by_cases hb : p[i] = 47
  ·rw [if_pos hb]
   refine Bl ?_
   rw [BC, AU, if_pos (by omega), PG hi, hb]
   rfl
  ·rw [if_neg hb]
   have hne : ((p[i].toNat : Int) != 47) = true := by
    rw [bne_iff_ne]
    intro e
    exact hb (UInt8.toNat_inj.1 (by show p[i].toNat = 47; omega))
   have step : BC p (i : Int) = some (.inl ((i + 1 : Nat) : Int)) := by
    rw [BC, AU, if_pos (by omega), PG hi, Option.bind_some, hne, Option.bind_some, Bj, E6 (by omega)]
   rw [Dd step, Ns p k (i + 1) (by omega) hp]
   congr 2
   omega
theorem Qn {p : Bu} (hp : p.length < 900000000) : CE p = some (DO p) := by
 have key : ∀ (n i : Nat) (acc : List Bu), p.length + 1 - i ≤ n → i ≤ p.length + 1 → acc.length ≤ i → acc ++ DO (p.drop i) = DO p → loop (BB p) (acc, (i : Int)) = some (DO p) := by
  intro n
  induction n with
  | zero =>
   intro i acc h1 h2 h3 h4
   refine Bl ?_
   rw [BB, AU, if_neg (by omega)]
   rw [List.drop_eq_nil_of_le (by omega), EY, List.append_nil] at h4
   rw [h4]
  | succ n ih =>
   intro i acc h1 h2 h3 h4
   by_cases hi : i < p.length
   ·have hle := KK (p.drop i)
    rw [List.length_drop] at hle
    have hc := FC (p.drop i)
    rw [List.drop_drop] at hc
    have step : BB p (acc, (i : Int)) = some (.inl (acc ++ (bif (p.drop i).take (Ba (p.drop i)) == [] then [] else [(p.drop i).take (Ba (p.drop i))]), ((i + Ba (p.drop i) + 1 : Nat) : Int))) := by
     rw [BB, AU, if_pos (by omega), Ns p (p.length - i) i (by omega) hp, Option.bind_some, AU]
     have e1 : IntKind.i64.wrap (((i + Ba (p.drop i) : Nat) : Int) + 1) = ((i + Ba (p.drop i) + 1 : Nat) : Int) := by rw [T0 (by omega) (by omega)]; omega
     by_cases hz : Ba (p.drop i) = 0
     ·rw [if_neg (by omega), Option.bind_some, e1, hz]
      simp
     ·rw [if_pos (by omega), P2 (by omega) (by omega), Option.bind_some, Gi (by simp; omega) (by simp; omega), BD, Option.bind_some, e1]
      have e2 : i + Ba (p.drop i) - i = Ba (p.drop i) := by omega
      have e3 : ((p.drop i).take (Ba (p.drop i)) == ([] : Bu)) = false := by
       rw [beq_eq_false_iff_ne]
       intro e
       have := congrArg List.length e
       rw [List.length_take, List.length_drop] at this
       simp at this
       omega
      rw [e2, e3]; rfl
    rw [Dd step]
    refine ih _ _ (by omega) (by omega) ?_ ?_
    ·rw [List.length_append]
     have : (bif (p.drop i).take (Ba (p.drop i)) == [] then ([] : List Bu) else [(p.drop i).take (Ba (p.drop i))]).length ≤ 1 := by cases ((p.drop i).take (Ba (p.drop i)) == []) <;> simp
     omega
    ·rw [← h4, hc, List.append_assoc, Nat.add_assoc]
   ·refine Bl ?_
    rw [BB, AU, if_neg (by omega)]
    rw [List.drop_eq_nil_of_le (by omega), EY, List.append_nil] at h4
    rw [h4]
 unfold CE
 rw [show (0 : Int) = ((0 : Nat) : Int) from rfl, key (p.length + 1) 0 [] (by omega) (by omega) (by simp) (by simp), Option.bind_some]
theorem SR {l : List Bu} (h : ∀ x ∈ l, N6 x) (hl : l.length < 900000000) (hj : (pj l).length < 900000000) : CP l = some (pj l) := by
 refine W.eq ?_
 unfold CP
 refine W.bind ?_
 refine (W.list (l := l) (enc := fun (s : Bu) i => (s, (i : Int))) (P := fun s i => s = pj (l.take i)) (Q := fun r => r = pj l) ?_ ?_ [] (by simp [Hb])).mono ?_
 ·rintro s rfl
  rw [Cc, AU, if_neg (by omega)]
  exact W.ret (by rw [List.take_length])
 ·rintro s i hi rfl
  have hx := h _ (List.getElem_mem hi)
  have ht := GZ l (i + 1)
  have et : l.take (i + 1) = l.take i ++ [l[i]] := CL (List.getElem?_eq_getElem hi)
  rw [et] at ht
  rw [Cc, AU, if_pos (by omega), CD hi, Option.bind_some, beq_eq_false_iff_ne.2 hx.1, BK]
  by_cases h0 : i = 0
  ·subst h0
   rw [List.take_zero, Hb] at *
   rw [List.nil_append, FT] at ht
   rw [show (!(([] : Bu) == [])) = false from rfl, BK, Option.bind_some, Option.bind_some, decide_eq_true (by simp; omega), BD, Option.bind_some, List.nil_append]
   refine W.ret ⟨pj (l.take 1), ?_, rfl⟩
   rw [et, List.nil_append, FT]
   rfl
  ·have hne : l.take i ≠ [] := by
    intro e
    have := congrArg List.length e
    rw [List.length_take, List.length_nil] at this
    omega
   have hpn := U7 (l := l.take i) (fun x hx => h x (List.mem_of_mem_take hx)) hne
   rw [KN _ _ hne, List.length_append, List.length_cons] at ht
   rw [beq_eq_false_iff_ne.2 hpn, Bool.not_false, Bj, decide_eq_true (by simp; omega), BD, Option.bind_some, Option.bind_some, decide_eq_true (by simp; omega), BD, Option.bind_some, E6 (by omega)]
   refine W.ret ⟨pj (l.take (i + 1)), ?_, rfl⟩
   rw [et, KN _ _ hne]
   simp
 ·rintro r rfl
  exact W.ret rfl
section
variable {K V : Type} [DecidableEq K]
theorem OO (m : List (K × V)) (k : K) (v : V) (n : K) : Cu (Dm m k v) n = if n = k then some v else Cu m n := by
 induction m with
 | nil => simp [Dm, Cu]
 | cons p m ih =>
  obtain ⟨k', v'⟩ := p
  unfold Dm
  by_cases h : k = k'
  ·subst h; simp only [if_true, Cu]; by_cases h2 : n = k <;> simp [h2]
  ·rw [if_neg h]; simp only [Cu, ih]
   by_cases h2 : n = k'
   ·subst h2; simp [Ne.symm h]
   ·simp [h2]
theorem QG (m : List (K × V)) (k : K) (v : V) : (Dm m k v).map Prod.fst = if k ∈ m.map Prod.fst then m.map Prod.fst else m.map Prod.fst ++ [k] := by
 induction m with
 | nil => simp [Dm]
 | cons p m ih =>
  obtain ⟨k', v'⟩ := p
  unfold Dm
  by_cases h : k = k'
  ·subst h; simp
  ·rw [if_neg h]; simp only [List.map_cons, ih, List.mem_cons, h, false_or]
   split <;> simp
theorem Ou {m : List (K × V)} (h : (m.map Prod.fst).Nodup) (k : K) (v : V) : ((Dm m k v).map Prod.fst).Nodup := by
 rw [QG]
 split
 ·exact h
 ·rename_i hk
  rw [List.nodup_append]
  exact ⟨h, by simp, fun a ha b hb => by simp at hb; subst hb; rintro rfl; exact hk ha⟩
end
end Go.Av.L
