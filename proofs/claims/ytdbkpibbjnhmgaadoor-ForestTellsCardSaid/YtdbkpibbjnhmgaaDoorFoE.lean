/-
 A part.
-/
import Derived.Test.YtdbkpibbjnhmgaaDoorFoD
namespace Go.Av.L
open Go.Av Go.Lib
set_option linter.unusedVariables false
set_option linter.unusedSimpArgs false
noncomputable def C2 (ps : List Pa) : Nat → Pa → Int
 | 0, _ => -1
 | i + 1, q => if ps[i]? = some q then (i : Int) else C2 ps i q
def IH (ps : List Pa) (i : Nat) (q : Pa) : Prop := ∃ j, j < i ∧ ∃ p, ps[j]? = some p ∧ ∃ m, q = p.take m
theorem Mg (ps : List Pa) : ∀ (i : Nat) (q : Pa), -1 ≤ C2 ps i q ∧ C2 ps i q < i
 | 0, q => by simp [C2]
 | i + 1, q => by
  have := Mg ps i q
  unfold C2
  split <;> omega
theorem G7 {ps : List Pa} : ∀ {i : Nat} {q : Pa}, ¬ IH ps i q → C2 ps i q = -1
 | 0, q, _ => rfl
 | i + 1, q, h => by
  unfold C2
  rw [if_neg, G7]
  ·rintro ⟨j, hj, p, hp, m, hm⟩
   exact h ⟨j, by omega, p, hp, m, hm⟩
  ·intro e
   exact h ⟨i, by omega, q, e, q.length, by simp⟩
theorem JA {ps : List Pa} {i : Nat} {p : Pa} (hp : ps[i]? = some p) (q : Pa) : IH ps (i + 1) q ↔ IH ps i q ∨ ∃ m, q = p.take m := by
 constructor
 ·rintro ⟨j, hj, p', hp', m, hm⟩
  by_cases e : j = i
  ·subst e
   rw [hp] at hp'
   injection hp' with hp'
   subst hp'
   exact .inr ⟨m, hm⟩
  ·exact .inl ⟨j, by omega, p', hp', m, hm⟩
 ·rintro (⟨j, hj, r⟩ | ⟨m, hm⟩)
  ·exact ⟨j, by omega, r⟩
  ·exact ⟨i, by omega, p, hp, m, hm⟩
abbrev paths (l : List Mb) : List Pa := l.map fun m => D1 m.Name
theorem Oo {l : List Mb} {i : Nat} (h : i < l.length) : (paths l)[i]? = some (D1 l[i].Name) := by
 rw [List.getElem?_map, List.getElem?_eq_getElem h]; rfl
structure Iu (ps : List Pa) (i : Nat) (R : List Rw) : Prop where
 V1 : (R.map (·.L)).Pairwise Ha
 keys : ∀ q, q ∈ R.map (·.L) ↔ q ≠ [] ∧ IH ps i q
 IS : ∀ x ∈ R, x.At = C2 ps i x.L
 len : R.length ≤ 200 * i
structure Uv (ps : List Pa) (i : Nat) (p : Pa) (k : Nat) (R : List Rw) : Prop where
 V1 : (R.map (·.L)).Pairwise Ha
 keys : ∀ q, q ∈ R.map (·.L) ↔ (q ≠ [] ∧ IH ps i q) ∨ ∃ m, 1 ≤ m ∧ m ≤ k ∧ q = p.take m
 IS : ∀ x ∈ R, x.At = C2 ps i x.L
 len : R.length ≤ 200 * i + k
theorem J2 {ps : List Pa} {i : Nat} {q : Pa} (h : IH ps i q) (hb : ∀ p ∈ ps, p.length ≤ 150) : q.length ≤ 150 := by
 obtain ⟨j, _, p, hp, m, rfl⟩ := h
 rw [List.length_take]
 have := hb p (List.mem_of_getElem? hp)
 omega
theorem S7 {ps : List Pa} {i k : Nat} {p : Pa} {R : List Rw} (h : Uv ps i p k R) (hk : k + 1 < p.length) : Uv ps i p (k + 1) (FH (p.take (k + 1)) (-1) R false) := by
 obtain ⟨s1, s2, s3⟩ := KC (p := p.take (k + 1)) (a := -1) h.V1
 have hl := IN (p.take (k + 1)) (-1) R false
 refine ⟨s1, fun q => ?_, fun x hx => ?_, by have := h.len; simp at hl; omega⟩
 ·rw [s2, h.keys]
  constructor
  ·rintro (rfl | h | ⟨m, h1, h2, h3⟩)
   ·exact .inr ⟨k + 1, by omega, by omega, rfl⟩
   ·exact .inl h
   ·exact .inr ⟨m, h1, by omega, h3⟩
  ·rintro (h | ⟨m, h1, h2, h3⟩)
   ·exact .inr (.inl h)
   ·by_cases e : m = k + 1
    ·subst e; exact .inl h3
    ·exact .inr (.inr ⟨m, h1, by omega, h3⟩)
 ·rcases s3 x hx with ⟨h1, _⟩ | ⟨h1, h2, h3⟩
  ·exact h.IS x h1
  ·have hn := h3 (by decide)
   rw [h.keys] at hn
   rw [h2, h1, G7]
   intro hK
   refine hn (.inl ⟨?_, hK⟩)
   intro e
   have := congrArg List.length e
   rw [List.length_take, List.length_nil] at this
   omega
theorem Ty {ps : List Pa} {i : Nat} {p : Pa} {R : List Rw} (hp : ps[i]? = some p) (h : Uv ps i p (p.length - 1) R) (h0 : 0 < p.length) (hl : p.length ≤ 150) : Iu ps (i + 1) (FH p i R false) := by
 obtain ⟨s1, s2, s3⟩ := KC (p := p) (a := (i : Int)) h.V1
 have hlen := IN p i R false
 refine ⟨s1, fun q => ?_, fun x hx => ?_, by have := h.len; simp at hlen; omega⟩
 ·rw [s2, h.keys, JA hp]
  constructor
  ·rintro (rfl | ⟨h1, h2⟩ | ⟨m, h1, h2, h3⟩)
   ·exact ⟨fun e => by rw [e] at h0; simp at h0, .inr ⟨q.length, by simp⟩⟩
   ·exact ⟨h1, .inl h2⟩
   ·refine ⟨fun e => ?_, .inr ⟨m, h3⟩⟩
    rw [e] at h3
    have := congrArg List.length h3
    rw [List.length_take, List.length_nil] at this
    omega
  ·rintro ⟨h1, h2 | ⟨m, h2⟩⟩
   ·exact .inr (.inl ⟨h1, h2⟩)
   ·by_cases hm : p.length ≤ m
    ·rw [List.take_of_length_le hm] at h2
     exact .inl h2
    ·refine .inr (.inr ⟨m, ?_, by omega, h2⟩)
     rcases Nat.eq_zero_or_pos m with e | e
     ·subst e; exact absurd (by rw [h2, List.take_zero]) h1
     ·exact e
 ·unfold C2
  rcases s3 x hx with ⟨h1, h2⟩ | ⟨h1, h2, _⟩
  ·have hne : x.L ≠ p := fun e => by have := h2 e; omega
   rw [if_neg (by rw [hp]; intro e; injection e with e; exact hne e.symm)]
   exact h.IS x h1
  ·rw [if_pos (by rw [hp, h1]), h2]
theorem S0 {ps : List Pa} {i : Nat} {R : List Rw} (hp : ps[i]? = some ([] : Pa)) (h : Uv ps i [] 0 R) : Iu ps (i + 1) R := by
 refine ⟨h.V1, fun q => ?_, fun x hx => ?_, by have := h.len; omega⟩
 ·rw [h.keys, JA hp]
  constructor
  ·rintro (⟨h1, h2⟩ | ⟨m, h1, h2, h3⟩)
   ·exact ⟨h1, .inl h2⟩
   ·omega
  ·rintro ⟨h1, h2 | ⟨m, h2⟩⟩
   ·exact .inl ⟨h1, h2⟩
   ·exact absurd (by rw [h2]; simp) h1
 ·have hk := (h.keys x.L).1 (List.mem_map.2 ⟨x, hx, rfl⟩)
  have hne : x.L ≠ [] := by
   rcases hk with hk | ⟨m, h1, h2, h3⟩
   ·exact hk.1
   ·omega
  unfold C2
  rw [if_neg (by rw [hp]; intro e; injection e with e; exact hne e.symm)]
  exact h.IS x hx
theorem Iu.X8 {ps : List Pa} {i : Nat} {R : List Rw} (h : Iu ps i R) (p : Pa) : Uv ps i p 0 R := ⟨h.V1, fun q => by
 rw [h.keys]
 constructor
 ·exact .inl
 ·rintro (h | ⟨m, h1, h2, _⟩)
  ·exact h
  ·omega, h.IS, by have := h.len; omega⟩
theorem Mi {ps : List Pa} {i k : Nat} {p : Pa} {R : List Rw} (h : Uv ps i p k R) (hb : ∀ p ∈ ps, p.length ≤ 150) (hp : p.length ≤ 150) : ∀ x ∈ R, x.L.length < 1000000 := fun x hx => by
 rcases (h.keys x.L).1 (List.mem_map.2 ⟨x, hx, rfl⟩) with ⟨_, hk⟩ | ⟨m, _, _, e⟩
 ·have := J2 hk hb; omega
 ·rw [e, List.length_take]; omega
structure Small (l : List Mb) : Prop where
 Ky : l.length ≤ 12
 names : ∀ m ∈ l, m.Name.length ≤ 100
 WC : ∀ m ∈ l, m.Data.length ≤ 2000
theorem Small.D1 {l : List Mb} (h : Small l) : ∀ p ∈ paths l, p.length ≤ 150 := fun p hp => by
 obtain ⟨m, hm, rfl⟩ := List.mem_map.1 hp
 have := LC m.Name
 have := h.names m hm
 omega
theorem SN {l : List Mb} (hs : Small l) : W (Cb l) fun R => Iu (paths l) l.length R := by
 unfold Cb
 refine W.bind ?_
 refine (W.list (l := l) (enc := fun (R : List Rw) i => (R, (i : Int))) (P := fun R i => Iu (paths l) i R) (Q := fun R => Iu (paths l) l.length R) ?_ ?_ [] ⟨by simp, fun q => ⟨fun h => by simp at h, fun h => by obtain ⟨_, j, hj, _⟩ := h; omega⟩, (fun x hx => by cases hx), by simp⟩).mono fun R hR => W.ret hR
 ·intro R hR
  rw [Cd, AR, if_neg (by omega)]
  exact W.ret hR
 ·intro R i hi hR
  have hp := Oo hi
  have hmem := List.getElem_mem hi
  have hnl := hs.names _ hmem
  have hfew := hs.Ky
  have hpl : (D1 l[i].Name).length ≤ 150 := hs.D1 _ (List.mem_of_getElem? hp)
  obtain ⟨p, hpe⟩ : ∃ p, p = D1 l[i].Name := ⟨_, rfl⟩
  rw [Cd, AR, if_pos (by omega), Br hi, Option.bind_some, Tj (by omega), Option.bind_some]
  rw [← hpe] at hp hpl ⊢
  refine W.bind ?_
  refine W.bind ?_
  refine (W.list (l := List.replicate (p.length - 1) ()) (enc := fun (R : List Rw) k => (R, ((k + 1 : Nat) : Int))) (P := fun R k => Uv (paths l) i p k R) (Q := fun R => Uv (paths l) i p (p.length - 1) R) ?_ ?_ R (hR.X8 p)).mono fun R2 hR2 => ?_
  ·intro R2 h2
   rw [List.length_replicate] at h2 ⊢
   rw [Cg, AR, if_neg (by omega)]
   exact W.ret h2
  ·intro R2 k hk h2
   rw [List.length_replicate] at hk
   have hlen := h2.len
   rw [Cg, AR, if_pos (by omega), RA (by omega), Option.bind_some, put_eq (by omega) (by rw [List.length_take]; omega) (Mi h2 hs.D1 hpl), Option.bind_some, Eh (by omega)]
   exact W.ret ⟨_, rfl, S7 h2 (by omega)⟩
  ·have hlen := hR2.len
   by_cases h0 : 0 < p.length
   ·rw [AR, if_pos (by omega), put_eq (by omega) (by omega) (Mi hR2 hs.D1 hpl), Option.bind_some]
    refine W.ret ?_
    rw [Eh (by omega)]
    exact W.ret ⟨_, rfl, Ty hp hR2 h0 hpl⟩
   ·have hnil : p = [] := List.eq_nil_of_length_eq_zero (by omega)
    subst hnil
    rw [AR, if_neg (by simp)]
    refine W.ret ?_
    rw [Eh (by omega)]
    exact W.ret ⟨_, rfl, S0 hp hR2⟩
end Go.Av.L
