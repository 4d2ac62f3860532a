/-
 A part.
-/
import Derived.Test.YtdbkpibbjnhmgaaDoorFoC
namespace Go.Av.L
open Go.Av Go.Lib
set_option linter.unusedVariables false
set_option linter.unusedSimpArgs false
abbrev Pa := List B9
abbrev Rw := AD
abbrev Mb := AS
def Hh : Pa → Pa → Prop
 | [], [] => False
 | [], _ :: _ => True
 | _ :: _, [] => False
 | a :: p, b :: q => a < b ∨ (a = b ∧ Hh p q)
theorem HX : ∀ p : Pa, ¬ Hh p p
 | [], h => h
 | a :: p, h => by
  rcases h with h | ⟨_, h⟩
  ·exact List.lt_irrefl _ h
  ·exact HX p h
theorem KH : ∀ {p q r : Pa}, Hh p q → Hh q r → Hh p r
 | [], [], _, h, _ => h.elim
 | [], _ :: _, [], _, h => h.elim
 | [], _ :: _, _ :: _, _, _ => trivial
 | _ :: _, [], _, h, _ => h.elim
 | _ :: _, _ :: _, [], _, h => h.elim
 | a :: p, b :: q, c :: r, h1, h2 => by
  rcases h1 with h1 | ⟨rfl, h1⟩ <;> rcases h2 with h2 | ⟨rfl, h2⟩
  ·exact .inl (List.lt_trans h1 h2)
  ·exact .inl h1
  ·exact .inl h2
  ·exact .inr ⟨rfl, KH h1 h2⟩
theorem QH : ∀ p q : Pa, Hh p q ∨ p = q ∨ Hh q p
 | [], [] => .inr (.inl rfl)
 | [], _ :: _ => .inl trivial
 | _ :: _, [] => .inr (.inr trivial)
 | a :: p, b :: q => by
  by_cases h1 : a < b
  ·exact .inl (.inl h1)
  ·by_cases h2 : b < a
   ·exact .inr (.inr (.inl h2))
   ·have e : a = b := List.le_antisymm (List.not_lt.1 h2) (List.not_lt.1 h1)
    subst e
    rcases QH p q with h | h | h
    ·exact .inl (.inr ⟨rfl, h⟩)
    ·exact .inr (.inl (by rw [h]))
    ·exact .inr (.inr (.inr ⟨rfl, h⟩))
theorem Ib : ∀ (c p q : Pa), Hh (c ++ p) (c ++ q) ↔ Hh p q
 | [], p, q => Iff.rfl
 | a :: c, p, q => by
  show (a < a ∨ (a = a ∧ Hh (c ++ p) (c ++ q))) ↔ _
  constructor
  ·rintro (h | ⟨_, h⟩)
   ·exact absurd h (List.lt_irrefl _)
   ·exact (Ib c p q).1 h
  ·intro h
   exact .inr ⟨rfl, (Ib c p q).2 h⟩
theorem Tb (c : Pa) {p : Pa} (h : p ≠ []) : Hh c (c ++ p) := by
 have : Hh (c ++ []) (c ++ p) := (Ib c [] p).2 (by
  cases p with
  | nil => exact absurd rfl h
  | cons a p => trivial)
 rwa [List.append_nil] at this
theorem Nj {p q : Pa} (h : Hh p q) : p ≠ q := by rintro rfl; exact HX _ h
noncomputable instance (p q : Pa) : Decidable (Hh p q) := Classical.propDecidable _
theorem N2 {a b : List Pa} (ha : a.Pairwise Hh) (hb : b.Pairwise Hh) (h : ∀ z, z ∈ a ↔ z ∈ b) : a = b := by
 have ha' : a.Nodup := ha.imp fun q => Nj q
 have hb' : b.Nodup := hb.imp fun q => Nj q
 have key : ∀ {l : List Pa}, l.Pairwise Hh → l.Pairwise fun x y => Hh x y ∨ x = y := fun h => h.imp .inl
 exact List.Perm.eq_of_pairwise (le := fun x y : Pa => Hh x y ∨ x = y) (fun x y _ _ h1 h2 => by
  rcases h1 with h1 | h1
  ·rcases h2 with h2 | h2
   ·exact absurd (KH h1 h2) (HX _)
   ·exact h2.symm
  ·exact h1) (key ha) (key hb) ((List.perm_ext_iff_of_nodup ha' hb').2 h)
theorem TB {a b : Pa} (ha : a.length < 1000000) : CJ a b = some (decide (Hh a b)) := by
 unfold CJ
 have cut : ∀ i, a.take i = b.take i → (Hh a b ↔ Hh (a.drop i) (b.drop i)) := fun i h => by
  have e1 : a = a.take i ++ a.drop i := (List.take_append_drop i a).symm
  have e2 : b = a.take i ++ b.drop i := by rw [h]; exact (List.take_append_drop i b).symm
  have := Ib (a.take i) (a.drop i) (b.drop i)
  rw [← e1, ← e2] at this
  exact this
 refine W.eq (W.bind ?_)
 refine W.list (l := List.replicate (min a.length b.length) ()) (enc := fun (_ : Unit) i => (i : Int)) (P := fun _ i => a.take i = b.take i) ?_ ?_ () (by simp)
 ·intro _ h
  rw [List.length_replicate] at h ⊢
  have hf : (decide (((min a.length b.length : Nat) : Int) < (a.length : Int)) && decide (((min a.length b.length : Nat) : Int) < (b.length : Int))) = false := by
   rw [Bool.and_eq_false_iff, decide_eq_false_iff_not, decide_eq_false_iff_not]; omega
  rw [C0, hf, Ay]
  refine W.ret (W.ret ?_)
  rw [decide_eq_decide, cut _ h]
  rcases Nat.lt_or_ge a.length b.length with hl | hl
  ·rw [Nat.min_eq_left (by omega), List.drop_eq_nil_of_le (Nat.le_refl _)]
   obtain ⟨x, l, e⟩ : ∃ x l, b.drop a.length = x :: l := by
    cases hb : b.drop a.length with
    | nil => rw [List.drop_eq_nil_iff] at hb; omega
    | cons x l => exact ⟨x, l, rfl⟩
   rw [e]
   exact ⟨fun _ => trivial, fun _ => by omega⟩
  ·rw [Nat.min_eq_right hl, List.drop_eq_nil_of_le (Nat.le_refl b.length)]
   refine ⟨fun h => by omega, fun h => ?_⟩
   cases ha : a.drop b.length with
   | nil => rw [ha] at h; exact h.elim
   | cons x l => rw [ha] at h; exact h.elim
 ·intro _ i hi h
  rw [List.length_replicate] at hi
  have h1 : i < a.length := by omega
  have h2 : i < b.length := by omega
  have hf : (decide ((i : Int) < (a.length : Int)) && decide ((i : Int) < (b.length : Int))) = true := by
   rw [Bool.and_eq_true, decide_eq_true_iff, decide_eq_true_iff]; omega
  rw [C0, hf, BE, BO h1, Option.bind_some, BO h2, Option.bind_some]
  by_cases he : a[i] = b[i]
  ·rw [beq_iff_eq.2 he, Bool.not_true, Ay, D5 (by omega)]
   refine W.ret ⟨(), rfl, ?_⟩
   rw [B0 (List.getElem?_eq_getElem h1), B0 (List.getElem?_eq_getElem h2), h, he]
  ·rw [beq_eq_false_iff_ne.2 he, Bool.not_false, BE]
   simp only [Option.bind_some]
   refine W.ret (W.ret ?_)
   rw [Bool.eq_iff_iff, Vu, decide_eq_true_iff, cut i h, drop_cons h1, drop_cons h2]
   constructor
   ·exact fun h => .inl h
   ·rintro (h | ⟨h, _⟩)
    ·exact h
    ·exact absurd h he
noncomputable def FO (p : Pa) (a : Int) : List Rw → Bool → List Rw
 | [], done => bif done then [] else [⟨p, a⟩]
 | x :: r, done => if x.L = p then ⟨x.L, if a ≥ 0 then a else x.At⟩ :: FO p a r true else if done = false ∧ Hh p x.L then ⟨p, a⟩ :: x :: FO p a r true else x :: FO p a r done
theorem KJ {p : Pa} {a : Int} : ∀ {l : List Rw}, (∀ x ∈ l, x.L ≠ p) → FO p a l true = l
 | [], _ => rfl
 | x :: r, h => by
  unfold FO
  rw [if_neg (h x (by simp)), if_neg (by simp), KJ fun y hy => h y (by simp [hy])]
theorem KQ {p : Pa} {a : Int} : ∀ {l : List Rw}, (l.map (·.L)).Pairwise Hh →
  ((FO p a l false).map (·.L)).Pairwise Hh ∧ (∀ q, q ∈ (FO p a l false).map (·.L) ↔ q = p ∨ q ∈ l.map (·.L)) ∧
  ∀ x' ∈ FO p a l false, (x' ∈ l ∧ (x'.L = p → a < 0)) ∨ (x'.L = p ∧ x'.At = a ∧ (a < 0 → p ∉ l.map (·.L)))
 | [], _ => by
  refine ⟨by simp [FO], fun q => by simp [FO], fun x' hx => ?_⟩
  simp [FO] at hx
  subst hx
  exact .inr ⟨rfl, rfl, by simp⟩
 | x :: r, h => by
  rw [List.map_cons, List.pairwise_cons] at h
  obtain ⟨h1, h2⟩ := h
  have hr : ∀ y ∈ r, Hh x.L y.L := fun y hy => h1 y.L (List.mem_map.2 ⟨y, hy, rfl⟩)
  by_cases he : x.L = p
  ·have e : FO p a r true = r := KJ fun y hy e => HX x.L (by have := hr y hy; rw [e, ← he] at this; exact this)
   unfold FO
   rw [if_pos he, e]
   refine ⟨?_, fun q => ?_, fun x' hx => ?_⟩
   ·rw [List.map_cons, List.pairwise_cons]; exact ⟨h1, h2⟩
   ·simp only [List.map_cons, List.mem_cons, he]
    constructor
    ·exact fun h => h.elim .inl (fun h => .inr (.inr h))
    ·exact fun h => h.elim .inl id
   ·rcases List.mem_cons.1 hx with rfl | hx
    ·by_cases ha : a ≥ 0
     ·refine .inr ⟨he, by simp [ha], fun h => by omega⟩
     ·refine .inl ⟨?_, fun _ => by omega⟩
      rw [if_neg ha]
      exact List.mem_cons_self ..
    ·refine .inl ⟨List.mem_cons_of_mem _ hx, fun e2 => ?_⟩
     exact absurd (hr x' hx) (by rw [e2, ← he]; exact HX _)
  ·by_cases hp : Hh p x.L
   ·have hgt : ∀ y ∈ r, Hh p y.L := fun y hy => KH hp (hr y hy)
    have e : FO p a r true = r := KJ fun y hy e => HX p (by have := hgt y hy; rwa [e] at this)
    unfold FO
    rw [if_neg he, if_pos ⟨rfl, hp⟩, e]
    have hno : p ∉ (x :: r).map (·.L) := by
     intro hm
     rw [List.map_cons, List.mem_cons] at hm
     rcases hm with hm | hm
     ·exact he hm.symm
     ·obtain ⟨y, hy, e⟩ := List.mem_map.1 hm
      exact HX p (by have := hgt y hy; rwa [e] at this)
    refine ⟨?_, fun q => by simp, fun x' hx => ?_⟩
    ·rw [List.map_cons, List.map_cons, List.pairwise_cons, List.pairwise_cons]
     refine ⟨fun q hq => ?_, h1, h2⟩
     rcases List.mem_cons.1 hq with rfl | hq
     ·exact hp
     ·obtain ⟨y, hy, rfl⟩ := List.mem_map.1 hq
      exact hgt y hy
    ·rcases List.mem_cons.1 hx with rfl | hx
     ·exact .inr ⟨rfl, rfl, fun _ => hno⟩
     ·refine .inl ⟨hx, fun e2 => ?_⟩
      exact absurd (List.mem_map.2 ⟨x', hx, e2⟩) hno
   ·obtain ⟨i1, i2, i3⟩ := KQ (p := p) (a := a) (l := r) h2
    have hlt : Hh x.L p := by
     rcases QH p x.L with h | h | h
     ·exact absurd h hp
     ·exact absurd h.symm he
     ·exact h
    unfold FO
    rw [if_neg he, if_neg (fun h => hp h.2)]
    refine ⟨?_, fun q => ?_, fun x' hx => ?_⟩
    ·rw [List.map_cons, List.pairwise_cons]
     refine ⟨fun q hq => ?_, i1⟩
     rcases (i2 q).1 hq with rfl | hq
     ·exact hlt
     ·exact h1 q hq
    ·simp only [List.map_cons, List.mem_cons, i2 q]
     constructor
     ·rintro (h | h | h)
      ·exact .inr (.inl h)
      ·exact .inl h
      ·exact .inr (.inr h)
     ·rintro (h | h | h)
      ·exact .inr (.inl h)
      ·exact .inl h
      ·exact .inr (.inr h)
    ·rcases List.mem_cons.1 hx with rfl | hx
     ·exact .inl ⟨List.mem_cons_self .., fun e => absurd e he⟩
     ·rcases i3 x' hx with ⟨q1, q2⟩ | ⟨q1, q2, q3⟩
      ·exact .inl ⟨List.mem_cons_of_mem _ q1, q2⟩
      ·refine .inr ⟨q1, q2, fun ha hm => ?_⟩
       rw [List.map_cons, List.mem_cons] at hm
       rcases hm with hm | hm
       ·exact he hm.symm
       ·exact q3 ha hm
theorem IC (p : Pa) (a : Int) : ∀ (l : List Rw) (d : Bool), (FO p a l d).length ≤ l.length + (bif d then 0 else 1)
 | [], d => by cases d <;> simp [FO]
 | x :: r, d => by
  unfold FO
  split
  ·have := IC p a r true
   simp only [List.length_cons, cond_true] at this ⊢
   cases d <;> simp <;> omega
  ·split
   ·rename_i hd
    have := IC p a r true
    rw [hd.1]
    simp only [List.length_cons, cond_true, cond_false] at this ⊢
    omega
   ·have := IC p a r d
    simp only [List.length_cons] at this ⊢
    omega
theorem put_eq {l : List Rw} {p : Pa} {a : Int} (hl : l.length < 1000000) (hp : p.length < 1000000) (hL : ∀ x ∈ l, x.L.length < 1000000) : Bl l p a = some (FO p a l false) := by
 unfold Bl
 obtain ⟨T, hT⟩ : ∃ T, T = FO p a l false := ⟨_, rfl⟩
 rw [← hT]
 refine W.eq (W.bind ?_)
 refine (W.list (l := l) (enc := fun (s : List Rw × Bool) i => (s.1, s.2, (i : Int))) (P := fun s i => s.1 ++ FO p a (l.drop i) s.2 = T ∧ s.1.length ≤ 2 * i) (Q := fun r => r.1 ++ (bif r.2 then [] else [⟨p, a⟩]) = T ∧ r.1.length ≤ 2 * l.length) ?_ ?_ ([], false) ⟨by rw [hT]; rfl, by simp⟩).mono ?_
 ·rintro ⟨out, done⟩ ⟨h, hlen⟩
  rw [CG, AQ, if_neg (by omega)]
  refine W.ret ⟨?_, hlen⟩
  rw [List.drop_length] at h
  exact h
 ·rintro ⟨out, done⟩ i hi ⟨h, hlen⟩
  simp only at h hlen
  rw [drop_cons hi] at h
  have hLi := hL _ (List.getElem_mem hi)
  rw [CG, AQ, if_pos (by omega), BO hi, Option.bind_some, LD _ _ hLi, Option.bind_some]
  unfold FO at h
  by_cases he : l[i].L = p
  ·rw [if_pos he] at h
   rw [beq_iff_eq.2 he, BE, AQ]
   have hb : ((if a ≥ 0 then some a else some l[i].At : Option Int).bind fun x11 => some (x11, out, true)) = some ((if a ≥ 0 then a else l[i].At), out, true) := by split <;> rfl
   rw [hb, Option.bind_some]
   dsimp only
   rw [GB (by simp; omega) (by simp; omega), BF, D5 (by omega)]
   refine W.ret ⟨(out ++ [⟨l[i].L, if a ≥ 0 then a else l[i].At⟩], true), rfl, ?_, by simp; omega⟩
   rw [← h, List.append_assoc]
   rfl
  ·rw [if_neg he] at h
   rw [beq_eq_false_iff_ne.2 he, Ay]
   have hless : ((Ax (!done) ((CJ p l[i].L).bind fun x13 => some x13) (some false) : Option Bool)) = some (!done && decide (Hh p l[i].L)) := by
    rw [TB hp]
    cases done <;> rfl
   rw [hless, Option.bind_some]
   by_cases hd : done = false ∧ Hh p l[i].L
   ·rw [if_pos hd] at h
    rw [hd.1, Bool.not_false, Bool.true_and, decide_eq_true hd.2, BE, GB (by simp; omega) (by simp; omega), BF, Option.bind_some]
    dsimp only
    rw [GB (by simp; omega) (by simp; omega), BF, D5 (by omega)]
    refine W.ret ⟨(out ++ [⟨p, a⟩] ++ [⟨l[i].L, l[i].At⟩], true), rfl, ?_, by simp; omega⟩
    rw [← h, List.append_assoc, List.append_assoc]
    rfl
   ·rw [if_neg hd] at h
    have hf : (!done && decide (Hh p l[i].L)) = false := by
     rw [Bool.eq_false_iff]
     intro hc
     rw [Bool.and_eq_true, Bool.not_eq_true', decide_eq_true_iff] at hc
     exact hd hc
    rw [hf, Ay, Option.bind_some]
    dsimp only
    rw [GB (by simp; omega) (by simp; omega), BF, D5 (by omega)]
    refine W.ret ⟨(out ++ [⟨l[i].L, l[i].At⟩], done), rfl, ?_, by simp; omega⟩
    rw [← h, List.append_assoc]
    rfl
 ·rintro ⟨out, done⟩ ⟨h, hlen⟩
  simp only at h hlen ⊢
  cases done with
  | true =>
   rw [Bool.not_true, Ay, Option.bind_some]
   refine W.ret ?_
   rw [← h]; simp
  | false =>
   rw [Bool.not_false, BE, GB (by simp; omega) (by simp; omega), BF, Option.bind_some]
   exact W.ret h
end Go.Av.L
