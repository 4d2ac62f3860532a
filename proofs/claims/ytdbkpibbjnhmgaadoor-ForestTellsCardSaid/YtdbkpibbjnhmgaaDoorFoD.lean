/-
 A part.
-/
import Derived.Test.YtdbkpibbjnhmgaaDoorFoC
namespace Go.Av.L
open Go.Av Go.Lib
set_option linter.unusedVariables false
set_option linter.unusedSimpArgs false
abbrev Pa := List Bw
abbrev Rw := AD
abbrev Mb := AO
def Ha : Pa → Pa → Prop
 | [], [] => False
 | [], _ :: _ => True
 | _ :: _, [] => False
 | a :: p, b :: q => a < b ∨ (a = b ∧ Ha p q)
theorem G1 : ∀ p : Pa, ¬ Ha p p
 | [], h => h
 | a :: p, h => by
  rcases h with h | ⟨_, h⟩
  ·exact List.lt_irrefl _ h
  ·exact G1 p h
theorem KJ : ∀ {p q r : Pa}, Ha p q → Ha q r → Ha p r
 | [], [], _, h, _ => h.elim
 | [], _ :: _, [], _, h => h.elim
 | [], _ :: _, _ :: _, _, _ => trivial
 | _ :: _, [], _, h, _ => h.elim
 | _ :: _, _ :: _, [], _, h => h.elim
 | a :: p, b :: q, c :: r, h1, h2 => by
  rcases h1 with h1 | ⟨rfl, h1⟩ <;> rcases h2 with h2 | ⟨rfl, h2⟩
  ·exact .inl (List.lt_trans h1 h2)
  ·exact .inl h1
  ·exact .inl h2
  ·exact .inr ⟨rfl, KJ h1 h2⟩
theorem QT : ∀ p q : Pa, Ha p q ∨ p = q ∨ Ha q p
 | [], [] => .inr (.inl rfl)
 | [], _ :: _ => .inl trivial
 | _ :: _, [] => .inr (.inr trivial)
 | a :: p, b :: q => by
  by_cases h1 : a < b
  ·exact .inl (.inl h1)
  ·by_cases h2 : b < a
   ·exact .inr (.inr (.inl h2))
   ·have e : a = b := List.le_antisymm (List.not_lt.1 h2) (List.not_lt.1 h1)
    subst e
    rcases QT p q with h | h | h
    ·exact .inl (.inr ⟨rfl, h⟩)
    ·exact .inr (.inl (by rw [h]))
    ·exact .inr (.inr (.inr ⟨rfl, h⟩))
theorem Jk : ∀ (c p q : Pa), Ha (c ++ p) (c ++ q) ↔ Ha p q
 | [], p, q => Iff.rfl
 | a :: c, p, q => by
  show (a < a ∨ (a = a ∧ Ha (c ++ p) (c ++ q))) ↔ _
  constructor
  ·rintro (h | ⟨_, h⟩)
   ·exact absurd h (List.lt_irrefl _)
   ·exact (Jk c p q).1 h
  ·intro h
   exact .inr ⟨rfl, (Jk c p q).2 h⟩
theorem UM (c : Pa) {p : Pa} (h : p ≠ []) : Ha c (c ++ p) := by
 have : Ha (c ++ []) (c ++ p) := (Jk c [] p).2 (by
  cases p with
  | nil => exact absurd rfl h
  | cons a p => trivial)
 rwa [List.append_nil] at this
theorem Py {p q : Pa} (h : Ha p q) : p ≠ q := by rintro rfl; exact G1 _ h
noncomputable instance (p q : Pa) : Decidable (Ha p q) := Classical.propDecidable _
theorem Tb {a b : List Pa} (ha : a.Pairwise Ha) (hb : b.Pairwise Ha) (h : ∀ z, z ∈ a ↔ z ∈ b) : a = b := by
 have ha' : a.Nodup := ha.imp fun q => Py q
 have hb' : b.Nodup := hb.imp fun q => Py q
 have key : ∀ {l : List Pa}, l.Pairwise Ha → l.Pairwise fun x y => Ha x y ∨ x = y := fun h => h.imp .inl
 exact List.Perm.eq_of_pairwise (le := fun x y : Pa => Ha x y ∨ x = y) (fun x y _ _ h1 h2 => by
  rcases h1 with h1 | h1
  ·rcases h2 with h2 | h2
   ·exact absurd (KJ h1 h2) (G1 _)
   ·exact h2.symm
  ·exact h1) (key ha) (key hb) ((List.perm_ext_iff_of_nodup ha' hb').2 h)
theorem UC {a b : Pa} (ha : a.length < 1000000) : CI a b = some (decide (Ha a b)) := by
 unfold CI
 have cut : ∀ i, a.take i = b.take i → (Ha a b ↔ Ha (a.drop i) (b.drop i)) := fun i h => by
  have e1 : a = a.take i ++ a.drop i := (List.take_append_drop i a).symm
  have e2 : b = a.take i ++ b.drop i := by rw [h]; exact (List.take_append_drop i b).symm
  have := Jk (a.take i) (a.drop i) (b.drop i)
  rw [← e1, ← e2] at this
  exact this
 refine W.eq (W.bind ?_)
 refine W.list (l := List.replicate (min a.length b.length) ()) (enc := fun (_ : Unit) i => (i : Int)) (P := fun _ i => a.take i = b.take i) ?_ ?_ () (by simp)
 ·intro _ h
  rw [List.length_replicate] at h ⊢
  have hf : (decide (((min a.length b.length : Nat) : Int) < (a.length : Int)) && decide (((min a.length b.length : Nat) : Int) < (b.length : Int))) = false := by
   rw [Bool.and_eq_false_iff, decide_eq_false_iff_not, decide_eq_false_iff_not]; omega
  rw [Ct, hf, A7]
  refine W.ret (W.ret ?_)
  rw [decide_eq_decide, cut _ h]
  rcases Nat.lt_or_ge a.length b.length with hl | hl
  ·rw [Nat.min_eq_left (by omega), List.drop_eq_nil_of_le (Nat.le_refl _)]
   obtain ⟨x, l, e⟩ : ∃ x l, b.drop a.length = x :: l := by
    cases hb : b.drop a.length with
    | nil => rw [List.drop_eq_nil_iff] at hb; omega
    | cons x l => exact ⟨x, l, rfl⟩
   rw [e]
   exact ⟨fun _ => trivial, fun _ => by omega⟩
  ·rw [Nat.min_eq_right hl, List.drop_eq_nil_of_le (Nat.le_refl b.length)]
   refine ⟨fun h => by omega, fun h => ?_⟩
   cases ha : a.drop b.length with
   | nil => rw [ha] at h; exact h.elim
   | cons x l => rw [ha] at h; exact h.elim
 ·intro _ i hi h
  rw [List.length_replicate] at hi
  have h1 : i < a.length := by omega
  have h2 : i < b.length := by omega
  have hf : (decide ((i : Int) < (a.length : Int)) && decide ((i : Int) < (b.length : Int))) = true := by
   rw [Bool.and_eq_true, decide_eq_true_iff, decide_eq_true_iff]; omega
  rw [Ct, hf, BY, Br h1, Option.bind_some, Br h2, Option.bind_some]
  by_cases he : a[i] = b[i]
  ·rw [beq_iff_eq.2 he, Bool.not_true, A7, Eh (by omega)]
   refine W.ret ⟨(), rfl, ?_⟩
   rw [CH (List.getElem?_eq_getElem h1), CH (List.getElem?_eq_getElem h2), h, he]
  ·rw [beq_eq_false_iff_ne.2 he, Bool.not_false, BY]
   simp only [Option.bind_some]
   refine W.ret (W.ret ?_)
   rw [Bool.eq_iff_iff, Wq, decide_eq_true_iff, cut i h, drop_cons h1, drop_cons h2]
   constructor
   ·exact fun h => .inl h
   ·rintro (h | ⟨h, _⟩)
    ·exact h
    ·exact absurd h he
noncomputable def FH (p : Pa) (a : Int) : List Rw → Bool → List Rw
 | [], done => bif done then [] else [⟨p, a⟩]
 | x :: r, done => if x.L = p then ⟨x.L, if a ≥ 0 then a else x.At⟩ :: FH p a r true else if done = false ∧ Ha p x.L then ⟨p, a⟩ :: x :: FH p a r true else x :: FH p a r done
theorem KM {p : Pa} {a : Int} : ∀ {l : List Rw}, (∀ x ∈ l, x.L ≠ p) → FH p a l true = l
 | [], _ => rfl
 | x :: r, h => by
  unfold FH
  rw [if_neg (h x (by simp)), if_neg (by simp), KM fun y hy => h y (by simp [hy])]
theorem KC {p : Pa} {a : Int} : ∀ {l : List Rw}, (l.map (·.L)).Pairwise Ha →
  ((FH p a l false).map (·.L)).Pairwise Ha ∧ (∀ q, q ∈ (FH p a l false).map (·.L) ↔ q = p ∨ q ∈ l.map (·.L)) ∧
  ∀ x' ∈ FH p a l false, (x' ∈ l ∧ (x'.L = p → a < 0)) ∨ (x'.L = p ∧ x'.At = a ∧ (a < 0 → p ∉ l.map (·.L)))
 | [], _ => by
  refine ⟨by simp [FH], fun q => by simp [FH], fun x' hx => ?_⟩
  simp [FH] at hx
  subst hx
  exact .inr ⟨rfl, rfl, by simp⟩
 | x :: r, h => by
  rw [List.map_cons, List.pairwise_cons] at h
  obtain ⟨h1, h2⟩ := h
  have hr : ∀ y ∈ r, Ha x.L y.L := fun y hy => h1 y.L (List.mem_map.2 ⟨y, hy, rfl⟩)
  by_cases he : x.L = p
  ·have e : FH p a r true = r := KM fun y hy e => G1 x.L (by have := hr y hy; rw [e, ← he] at this; exact this)
   unfold FH
   rw [if_pos he, e]
   refine ⟨?_, fun q => ?_, fun x' hx => ?_⟩
   ·rw [List.map_cons, List.pairwise_cons]; exact ⟨h1, h2⟩
   ·simp only [List.map_cons, List.mem_cons, he]
    constructor
    ·exact fun h => h.elim .inl (fun h => .inr (.inr h))
    ·exact fun h => h.elim .inl id
   ·rcases List.mem_cons.1 hx with rfl | hx
    ·by_cases ha : a ≥ 0
     ·refine .inr ⟨he, by simp [ha], fun h => by omega⟩
     ·refine .inl ⟨?_, fun _ => by omega⟩
      rw [if_neg ha]
      exact List.mem_cons_self ..
    ·refine .inl ⟨List.mem_cons_of_mem _ hx, fun e2 => ?_⟩
     exact absurd (hr x' hx) (by rw [e2, ← he]; exact G1 _)
  ·by_cases hp : Ha p x.L
   ·have hgt : ∀ y ∈ r, Ha p y.L := fun y hy => KJ hp (hr y hy)
    have e : FH p a r true = r := KM fun y hy e => G1 p (by have := hgt y hy; rwa [e] at this)
    unfold FH
    rw [if_neg he, if_pos ⟨rfl, hp⟩, e]
    have hno : p ∉ (x :: r).map (·.L) := by
     intro hm
     rw [List.map_cons, List.mem_cons] at hm
     rcases hm with hm | hm
     ·exact he hm.symm
     ·obtain ⟨y, hy, e⟩ := List.mem_map.1 hm
      exact G1 p (by have := hgt y hy; rwa [e] at this)
    refine ⟨?_, fun q => by simp, fun x' hx => ?_⟩
    ·rw [List.map_cons, List.map_cons, List.pairwise_cons, List.pairwise_cons]
     refine ⟨fun q hq => ?_, h1, h2⟩
     rcases List.mem_cons.1 hq with rfl | hq
     ·exact hp
     ·obtain ⟨y, hy, rfl⟩ := List.mem_map.1 hq
      exact hgt y hy
    ·rcases List.mem_cons.1 hx with rfl | hx
     ·exact .inr ⟨rfl, rfl, fun _ => hno⟩
     ·refine .inl ⟨hx, fun e2 => ?_⟩
      exact absurd (List.mem_map.2 ⟨x', hx, e2⟩) hno
   ·obtain ⟨i1, i2, i3⟩ := KC (p := p) (a := a) (l := r) h2
    have hlt : Ha x.L p := by
     rcases QT p x.L with h | h | h
     ·exact absurd h hp
     ·exact absurd h.symm he
     ·exact h
    unfold FH
    rw [if_neg he, if_neg (fun h => hp h.2)]
    refine ⟨?_, fun q => ?_, fun x' hx => ?_⟩
    ·rw [List.map_cons, List.pairwise_cons]
     refine ⟨fun q hq => ?_, i1⟩
     rcases (i2 q).1 hq with rfl | hq
     ·exact hlt
     ·exact h1 q hq
    ·simp only [List.map_cons, List.mem_cons, i2 q]
     constructor
     ·rintro (h | h | h)
      ·exact .inr (.inl h)
      ·exact .inl h
      ·exact .inr (.inr h)
     ·rintro (h | h | h)
      ·exact .inr (.inl h)
      ·exact .inl h
      ·exact .inr (.inr h)
    ·rcases List.mem_cons.1 hx with rfl | hx
     ·exact .inl ⟨List.mem_cons_self .., fun e => absurd e he⟩
     ·rcases i3 x' hx with ⟨q1, q2⟩ | ⟨q1, q2, q3⟩
      ·exact .inl ⟨List.mem_cons_of_mem _ q1, q2⟩
      ·refine .inr ⟨q1, q2, fun ha hm => ?_⟩
       rw [List.map_cons, List.mem_cons] at hm
       rcases hm with hm | hm
       ·exact he hm.symm
       ·exact q3 ha hm
theorem IN (p : Pa) (a : Int) : ∀ (l : List Rw) (d : Bool), (FH p a l d).length ≤ l.length + (bif d then 0 else 1)
 | [], d => by cases d <;> simp [FH]
 | x :: r, d => by
  unfold FH
  split
  ·have := IN p a r true
   simp only [List.length_cons, cond_true] at this ⊢
   cases d <;> simp <;> omega
  ·split
   ·rename_i hd
    have := IN p a r true
    rw [hd.1]
    simp only [List.length_cons, cond_true, cond_false] at this ⊢
    omega
   ·have := IN p a r d
    simp only [List.length_cons] at this ⊢
    omega
theorem put_eq {l : List Rw} {p : Pa} {a : Int} (hl : l.length < 1000000) (hp : p.length < 1000000) (hL : ∀ x ∈ l, x.L.length < 1000000) : Bi l p a = some (FH p a l false) := by
 unfold Bi
 obtain ⟨T, hT⟩ : ∃ T, T = FH p a l false := ⟨_, rfl⟩
 rw [← hT]
 refine W.eq (W.bind ?_)
 refine (W.list (l := l) (enc := fun (s : List Rw × Bool) i => (s.1, s.2, (i : Int))) (P := fun s i => s.1 ++ FH p a (l.drop i) s.2 = T ∧ s.1.length ≤ 2 * i) (Q := fun r => r.1 ++ (bif r.2 then [] else [⟨p, a⟩]) = T ∧ r.1.length ≤ 2 * l.length) ?_ ?_ ([], false) ⟨by rw [hT]; rfl, by simp⟩).mono ?_
 ·rintro ⟨out, done⟩ ⟨h, hlen⟩
  rw [CD, AR, if_neg (by omega)]
  refine W.ret ⟨?_, hlen⟩
  rw [List.drop_length] at h
  exact h
 ·rintro ⟨out, done⟩ i hi ⟨h, hlen⟩
  simp only at h hlen
  rw [drop_cons hi] at h
  have hLi := hL _ (List.getElem_mem hi)
  rw [CD, AR, if_pos (by omega), Br hi, Option.bind_some, O2 _ _ hLi, Option.bind_some]
  unfold FH at h
  by_cases he : l[i].L = p
  ·rw [if_pos he] at h
   rw [beq_iff_eq.2 he, BY, AR]
   have hb : ((if a ≥ 0 then some a else some l[i].At : Option Int).bind fun x11 => some (x11, out, true)) = some ((if a ≥ 0 then a else l[i].At), out, true) := by split <;> rfl
   rw [hb, Option.bind_some]
   dsimp only
   rw [FB (by simp; omega) (by simp; omega), Ao, Eh (by omega)]
   refine W.ret ⟨(out ++ [⟨l[i].L, if a ≥ 0 then a else l[i].At⟩], true), rfl, ?_, by simp; omega⟩
   rw [← h, List.append_assoc]
   rfl
  ·rw [if_neg he] at h
   rw [beq_eq_false_iff_ne.2 he, A7]
   have hless : ((BM (!done) ((CI p l[i].L).bind fun x13 => some x13) (some false) : Option Bool)) = some (!done && decide (Ha p l[i].L)) := by
    rw [UC hp]
    cases done <;> rfl
   rw [hless, Option.bind_some]
   by_cases hd : done = false ∧ Ha p l[i].L
   ·rw [if_pos hd] at h
    rw [hd.1, Bool.not_false, Bool.true_and, decide_eq_true hd.2, BY, FB (by simp; omega) (by simp; omega), Ao, Option.bind_some]
    dsimp only
    rw [FB (by simp; omega) (by simp; omega), Ao, Eh (by omega)]
    refine W.ret ⟨(out ++ [⟨p, a⟩] ++ [⟨l[i].L, l[i].At⟩], true), rfl, ?_, by simp; omega⟩
    rw [← h, List.append_assoc, List.append_assoc]
    rfl
   ·rw [if_neg hd] at h
    have hf : (!done && decide (Ha p l[i].L)) = false := by
     rw [Bool.eq_false_iff]
     intro hc
     rw [Bool.and_eq_true, Bool.not_eq_true', decide_eq_true_iff] at hc
     exact hd hc
    rw [hf, A7, Option.bind_some]
    dsimp only
    rw [FB (by simp; omega) (by simp; omega), Ao, Eh (by omega)]
    refine W.ret ⟨(out ++ [⟨l[i].L, l[i].At⟩], done), rfl, ?_, by simp; omega⟩
    rw [← h, List.append_assoc]
    rfl
 ·rintro ⟨out, done⟩ ⟨h, hlen⟩
  simp only at h hlen ⊢
  cases done with
  | true =>
   rw [Bool.not_true, A7, Option.bind_some]
   refine W.ret ?_
   rw [← h]; simp
  | false =>
   rw [Bool.not_false, BY, FB (by simp; omega) (by simp; omega), Ao, Option.bind_some]
   exact W.ret h
end Go.Av.L
