/-
 A part.
-/
import Derived.Test.YtdbkpibbjnhmgaaDoorFoA
import Derived.Test.YtdbkpibbjnhmgaaDoorK0
import Derived.Test.YtdbkpibbjnhmgaaDoorK1
import Derived.Test.YtdbkpibbjnhmgaaDoorK2
namespace Go.Av.L
open Go.Av Go.Lib
set_option linter.unusedVariables false
set_option linter.unusedSimpArgs false
theorem II : ∀ (x : Bw), Lib.indexByte x 47 = if Bp x < x.length then (Bp x : Int) else -1
 | [] => rfl
 | b :: t => by
  have ih := II t
  have hl := Kz t
  unfold Lib.indexByte Bp
  by_cases hb : b = 47
  ·subst hb; simp
  ·rw [if_neg hb, List.length_cons]
   have e : (b == 47) = false := beq_eq_false_iff_ne.2 hb
   by_cases h : Bp t < t.length
   ·rw [if_pos h] at ih
    have e2 : ((Bp t : Int) == -1) = false := beq_eq_false_iff_ne.2 (by omega)
    rw [if_pos (show Bp t + 1 < t.length + 1 by omega), ih]
    simp [e, e2]
   ·rw [if_neg h] at ih
    rw [if_neg (show ¬ Bp t + 1 < t.length + 1 by omega), ih]
    simp [e]
theorem LG (x : Bw) : Lib.index x [47] = if Bp x < x.length then (Bp x : Int) else -1 := by rw [Lib.index_one, II]
theorem PE {acc : List Bw} {v : Bw} (ha : acc.length < 1000000000) : CN acc v = some (.inl (acc ++ (bif v == [] then [] else [v]))) := by
 rw [CN]
 cases (v == ([] : Bw)) with
 | true => simp
 | false => simp [FB (b := 16) (n := acc.length + 1) (by omega) (by omega)]
theorem G5 {X σ ρ : Type} {Y : σ → X → Option (σ ⊕ ρ)} {s : σ} {x : X} {o : σ ⊕ ρ} (h : Y s x = some o) : N1 Y (.inl s) x = some (o.isLeft, o) := by
 show (Y s x).map _ = _
 rw [h]; rfl
theorem Pk : ∀ (n : Nat) (x : Bw) (acc : List Bw), x.length ≤ n → acc.length + x.length < 900000000 →
  ∃ (x' : Bw) (acc' : List Bw), loop (Ap CN) (x, .inl acc) = some (.inl (x', .inl acc')) ∧ acc'.length + x'.length ≤ acc.length + x.length ∧ acc' ++ (bif x' == [] then [] else [x']) = acc ++ Di x := by
 intro n
 induction n with
 | zero =>
  intro x acc hn hb
  have : x = [] := List.length_eq_zero_iff.1 (by omega)
  subst this
  exact ⟨[], acc, Ba rfl, Nat.le_refl _, rfl⟩
 | succ n ih =>
  intro x acc hn hb
  have hle := Kz x
  by_cases hs : Bp x < x.length
  ·have e1 : IntKind.i64.wrap ((Bp x : Int) + 0) = (Bp x : Int) := V2 (by omega) (by omega)
   have e2 : IntKind.i64.wrap ((Bp x : Int) + 1) = ((Bp x + 1 : Nat) : Int) := by rw [V2 (by omega) (by omega)]; omega
   have step : Ap CN (x, .inl acc) = some (.inl (x.drop (Bp x + 1), .inl (acc ++ (bif x.take (Bp x) == [] then [] else [x.take (Bp x)])))) := by
    rw [Ap, decide_eq_true (by omega), Ao, LG, if_pos hs, AR, if_neg (by omega), e1, UH hle, Option.bind_some, G5 (PE (by omega)), Option.bind_some]
    dsimp only
    rw [e2, UT (by omega)]
    rfl
   obtain ⟨x', acc', h1, h2, h3⟩ := ih (x.drop (Bp x + 1)) (acc ++ (bif x.take (Bp x) == [] then [] else [x.take (Bp x)])) (by rw [List.length_drop]; omega) (by
    rw [List.length_append, List.length_drop]
    have : (bif x.take (Bp x) == [] then ([] : List Bw) else [x.take (Bp x)]).length ≤ 1 := by cases (x.take (Bp x) == []) <;> simp
    omega)
   refine ⟨x', acc', by rw [Cx step]; exact h1, ?_, by rw [h3, List.append_assoc, ← FZ]⟩
   rw [List.length_append, List.length_drop] at h2
   have : (bif x.take (Bp x) == [] then ([] : List Bw) else [x.take (Bp x)]).length ≤ 1 := by cases (x.take (Bp x) == []) <;> simp
   omega
  ·refine ⟨x, acc, Ba ?_, Nat.le_refl _, ?_⟩
   ·rw [Ap, decide_eq_true (by omega), Ao, LG, if_neg hs]; rfl
   ·have e : Bp x = x.length := by omega
    rw [FZ, e, List.take_length, List.drop_eq_nil_of_le (by omega), Er, List.append_nil]
theorem Ln {s : Bw} (h : s.length < 900000000) : Db s = some (Di s) := by
 obtain ⟨x', acc', h1, h2, h3⟩ := Pk s.length s [] (Nat.le_refl _) (by simpa using h)
 simp only [List.length_nil, Nat.zero_add] at h2
 unfold Db Cr Ce B4
 simp only [Option.bind_some]
 rw [h1, Option.bind_some]
 dsimp only
 rw [G5 (PE (by omega)), Option.bind_some]
 dsimp only
 rw [Option.bind_some, h3]
 rfl
theorem LA : ∀ (l : List Bw) (x : Bw), l ≠ [] → pj (l ++ [x]) = pj l ++ 47 :: x
 | [], x, h => absurd rfl h
 | [y], x, _ => by rw [List.singleton_append, Dx, Fh, Fh]
 | y :: z :: l, x, _ => by
  rw [List.cons_append, List.cons_append, Dx, Dx, ← List.cons_append, LA (z :: l) x (by simp)]
  simp
theorem Ub {l : List Bw} (h : ∀ x ∈ l, Nz x) (hl : l ≠ []) : pj l ≠ [] := by
 match l, hl with
 | [x], _ => rw [Fh]; exact (h x (by simp)).1
 | x :: y :: l, _ => rw [Dx]; simp
theorem Ou (p : Bw) : ∀ (k i : Nat), i + k = p.length → p.length < 900000000 → loop (BR p) (i : Int) = some ((i + Bp (p.drop i) : Nat) : Int)
 | 0, i, h, hp => by
  refine Ba ?_
  rw [BR, AR, if_neg (by omega), List.drop_eq_nil_of_le (by omega)]
  rfl
 | k + 1, i, h, hp => by
  have hi : i < p.length := by omega
  rw [drop_cons hi, Bp]
  by_cases hb : p[i] = 47
  ·rw [if_pos hb]
   refine Ba ?_
   rw [BR, AR, if_pos (by omega), QQ hi, hb]
   rfl
  ·rw [if_neg hb]
   have hne : ((p[i].toNat : Int) != 47) = true := by
    rw [bne_iff_ne]
    intro e
    exact hb (UInt8.toNat_inj.1 (by show p[i].toNat = 47; omega))
   have step : BR p (i : Int) = some (.inl ((i + 1 : Nat) : Int)) := by
    rw [BR, AR, if_pos (by omega), QQ hi, Option.bind_some, hne, Option.bind_some, BY, Eh (by omega)]
   rw [Cx step, Ou p k (i + 1) (by omega) hp]
   congr 2
   omega
theorem SS {p : Bw} (hp : p.length < 900000000) : CX p = some (Di p) := by
 have key : ∀ (n i : Nat) (acc : List Bw), p.length + 1 - i ≤ n → i ≤ p.length + 1 → acc.length ≤ i → acc ++ Di (p.drop i) = Di p → loop (BT p) (acc, (i : Int)) = some (Di p) := by
  intro n
  induction n with
  | zero =>
   intro i acc h1 h2 h3 h4
   refine Ba ?_
   rw [BT, AR, if_neg (by omega)]
   rw [List.drop_eq_nil_of_le (by omega), Er, List.append_nil] at h4
   rw [h4]
  | succ n ih =>
   intro i acc h1 h2 h3 h4
   by_cases hi : i < p.length
   ·have hle := Kz (p.drop i)
    rw [List.length_drop] at hle
    have hc := FZ (p.drop i)
    rw [List.drop_drop] at hc
    have step : BT p (acc, (i : Int)) = some (.inl (acc ++ (bif (p.drop i).take (Bp (p.drop i)) == [] then [] else [(p.drop i).take (Bp (p.drop i))]), ((i + Bp (p.drop i) + 1 : Nat) : Int))) := by
     rw [BT, AR, if_pos (by omega), Ou p (p.length - i) i (by omega) hp, Option.bind_some, AR]
     have e1 : IntKind.i64.wrap (((i + Bp (p.drop i) : Nat) : Int) + 1) = ((i + Bp (p.drop i) + 1 : Nat) : Int) := by rw [V2 (by omega) (by omega)]; omega
     by_cases hz : Bp (p.drop i) = 0
     ·rw [if_neg (by omega), Option.bind_some, e1, hz]
      simp
     ·rw [if_pos (by omega), RB (by omega) (by omega), Option.bind_some, FB (by simp; omega) (by simp; omega), Ao, Option.bind_some, e1]
      have e2 : i + Bp (p.drop i) - i = Bp (p.drop i) := by omega
      have e3 : ((p.drop i).take (Bp (p.drop i)) == ([] : Bw)) = false := by
       rw [beq_eq_false_iff_ne]
       intro e
       have := congrArg List.length e
       rw [List.length_take, List.length_drop] at this
       simp at this
       omega
      rw [e2, e3]; rfl
    rw [Cx step]
    refine ih _ _ (by omega) (by omega) ?_ ?_
    ·rw [List.length_append]
     have : (bif (p.drop i).take (Bp (p.drop i)) == [] then ([] : List Bw) else [(p.drop i).take (Bp (p.drop i))]).length ≤ 1 := by cases ((p.drop i).take (Bp (p.drop i)) == []) <;> simp
     omega
    ·rw [← h4, hc, List.append_assoc, Nat.add_assoc]
   ·refine Ba ?_
    rw [BT, AR, if_neg (by omega)]
    rw [List.drop_eq_nil_of_le (by omega), Er, List.append_nil] at h4
    rw [h4]
 unfold CX
 rw [show (0 : Int) = ((0 : Nat) : Int) from rfl, key (p.length + 1) 0 [] (by omega) (by omega) (by simp) (by simp), Option.bind_some]
theorem QR {l : List Bw} (h : ∀ x ∈ l, Nz x) (hl : l.length < 900000000) (hj : (pj l).length < 900000000) : Bo l = some (pj l) := by
 refine W.eq ?_
 unfold Bo
 refine W.bind ?_
 refine (W.list (l := l) (enc := fun (s : Bw) i => (s, (i : Int))) (P := fun s i => s = pj (l.take i)) (Q := fun r => r = pj l) ?_ ?_ [] (by simp [G6])).mono ?_
 ·rintro s rfl
  rw [Cs, AR, if_neg (by omega)]
  exact W.ret (by rw [List.take_length])
 ·rintro s i hi rfl
  have hx := h _ (List.getElem_mem hi)
  have ht := Fa l (i + 1)
  have et : l.take (i + 1) = l.take i ++ [l[i]] := CH (List.getElem?_eq_getElem hi)
  rw [et] at ht
  rw [Cs, AR, if_pos (by omega), Br hi, Option.bind_some, beq_eq_false_iff_ne.2 hx.1, A7]
  by_cases h0 : i = 0
  ·subst h0
   rw [List.take_zero, G6] at *
   rw [List.nil_append, Fh] at ht
   rw [show (!(([] : Bw) == [])) = false from rfl, A7, Option.bind_some, Option.bind_some, decide_eq_true (by simp; omega), Ao, Option.bind_some, List.nil_append]
   refine W.ret ⟨pj (l.take 1), ?_, rfl⟩
   rw [et, List.nil_append, Fh]
   rfl
  ·have hne : l.take i ≠ [] := by
    intro e
    have := congrArg List.length e
    rw [List.length_take, List.length_nil] at this
    omega
   have hpn := Ub (l := l.take i) (fun x hx => h x (List.mem_of_mem_take hx)) hne
   rw [LA _ _ hne, List.length_append, List.length_cons] at ht
   rw [beq_eq_false_iff_ne.2 hpn, Bool.not_false, BY, decide_eq_true (by simp; omega), Ao, Option.bind_some, Option.bind_some, decide_eq_true (by simp; omega), Ao, Option.bind_some, Eh (by omega)]
   refine W.ret ⟨pj (l.take (i + 1)), ?_, rfl⟩
   rw [et, LA _ _ hne]
   simp
 ·rintro r rfl
  exact W.ret rfl
section
variable {K V : Type} [DecidableEq K]
theorem QD (m : List (K × V)) (k : K) (v : V) (n : K) : CY (D7 m k v) n = if n = k then some v else CY m n := by
 induction m with
 | nil => simp [D7, CY]
 | cons p m ih =>
  obtain ⟨k', v'⟩ := p
  unfold D7
  by_cases h : k = k'
  ·subst h; simp only [if_true, CY]; by_cases h2 : n = k <;> simp [h2]
  ·rw [if_neg h]; simp only [CY, ih]
   by_cases h2 : n = k'
   ·subst h2; simp [Ne.symm h]
   ·simp [h2]
theorem RX (m : List (K × V)) (k : K) (v : V) : (D7 m k v).map Prod.fst = if k ∈ m.map Prod.fst then m.map Prod.fst else m.map Prod.fst ++ [k] := by
 induction m with
 | nil => simp [D7]
 | cons p m ih =>
  obtain ⟨k', v'⟩ := p
  unfold D7
  by_cases h : k = k'
  ·subst h; simp
  ·rw [if_neg h]; simp only [List.map_cons, ih, List.mem_cons, h, false_or]
   split <;> simp
theorem Pu {m : List (K × V)} (h : (m.map Prod.fst).Nodup) (k : K) (v : V) : ((D7 m k v).map Prod.fst).Nodup := by
 rw [RX]
 split
 ·exact h
 ·rename_i hk
  rw [List.nodup_append]
  exact ⟨h, by simp, fun a ha b hb => by simp at hb; subst hb; rintro rfl; exact hk ha⟩
end
end Go.Av.L
