/-
 A part.
-/
import Derived.Test.YtdbkpibbjnhmgaaDoorFoD
namespace Go.Av.L
open Go.Av Go.Lib
set_option linter.unusedVariables false
set_option linter.unusedSimpArgs false
noncomputable def DL (ps : List Pa) : Nat → Pa → Int
 | 0, _ => -1
 | i + 1, q => if ps[i]? = some q then (i : Int) else DL ps i q
def Hv (ps : List Pa) (i : Nat) (q : Pa) : Prop := ∃ j, j < i ∧ ∃ p, ps[j]? = some p ∧ ∃ m, q = p.take m
theorem Mv (ps : List Pa) : ∀ (i : Nat) (q : Pa), -1 ≤ DL ps i q ∧ DL ps i q < i
 | 0, q => by simp [DL]
 | i + 1, q => by
  have := Mv ps i q
  unfold DL
  split <;> omega
theorem HG {ps : List Pa} : ∀ {i : Nat} {q : Pa}, ¬ Hv ps i q → DL ps i q = -1
 | 0, q, _ => rfl
 | i + 1, q, h => by
  unfold DL
  rw [if_neg, HG]
  ·rintro ⟨j, hj, p, hp, m, hm⟩
   exact h ⟨j, by omega, p, hp, m, hm⟩
  ·intro e
   exact h ⟨i, by omega, q, e, q.length, by simp⟩
theorem JD {ps : List Pa} {i : Nat} {p : Pa} (hp : ps[i]? = some p) (q : Pa) : Hv ps (i + 1) q ↔ Hv ps i q ∨ ∃ m, q = p.take m := by
 constructor
 ·rintro ⟨j, hj, p', hp', m, hm⟩
  by_cases e : j = i
  ·subst e
   rw [hp] at hp'
   injection hp' with hp'
   subst hp'
   exact .inr ⟨m, hm⟩
  ·exact .inl ⟨j, by omega, p', hp', m, hm⟩
 ·rintro (⟨j, hj, r⟩ | ⟨m, hm⟩)
  ·exact ⟨j, by omega, r⟩
  ·exact ⟨i, by omega, p, hp, m, hm⟩
abbrev paths (l : List Mb) : List Pa := l.map fun m => Dd m.Name
theorem OL {l : List Mb} {i : Nat} (h : i < l.length) : (paths l)[i]? = some (Dd l[i].Name) := by
 rw [List.getElem?_map, List.getElem?_eq_getElem h]; rfl
structure Jl (ps : List Pa) (i : Nat) (R : List Rw) : Prop where
 Ty : (R.map (·.L)).Pairwise Hh
 keys : ∀ q, q ∈ R.map (·.L) ↔ q ≠ [] ∧ Hv ps i q
 Gx : ∀ x ∈ R, x.At = DL ps i x.L
 len : R.length ≤ 200 * i
structure UI (ps : List Pa) (i : Nat) (p : Pa) (k : Nat) (R : List Rw) : Prop where
 Ty : (R.map (·.L)).Pairwise Hh
 keys : ∀ q, q ∈ R.map (·.L) ↔ (q ≠ [] ∧ Hv ps i q) ∨ ∃ m, 1 ≤ m ∧ m ≤ k ∧ q = p.take m
 Gx : ∀ x ∈ R, x.At = DL ps i x.L
 len : R.length ≤ 200 * i + k
theorem Mp {ps : List Pa} {i : Nat} {q : Pa} (h : Hv ps i q) (hb : ∀ p ∈ ps, p.length ≤ 150) : q.length ≤ 150 := by
 obtain ⟨j, _, p, hp, m, rfl⟩ := h
 rw [List.length_take]
 have := hb p (List.mem_of_getElem? hp)
 omega
theorem R5 {ps : List Pa} {i k : Nat} {p : Pa} {R : List Rw} (h : UI ps i p k R) (hk : k + 1 < p.length) : UI ps i p (k + 1) (FO (p.take (k + 1)) (-1) R false) := by
 obtain ⟨s1, s2, s3⟩ := KQ (p := p.take (k + 1)) (a := -1) h.Ty
 have hl := IC (p.take (k + 1)) (-1) R false
 refine ⟨s1, fun q => ?_, fun x hx => ?_, by have := h.len; simp at hl; omega⟩
 ·rw [s2, h.keys]
  constructor
  ·rintro (rfl | h | ⟨m, h1, h2, h3⟩)
   ·exact .inr ⟨k + 1, by omega, by omega, rfl⟩
   ·exact .inl h
   ·exact .inr ⟨m, h1, by omega, h3⟩
  ·rintro (h | ⟨m, h1, h2, h3⟩)
   ·exact .inr (.inl h)
   ·by_cases e : m = k + 1
    ·subst e; exact .inl h3
    ·exact .inr (.inr ⟨m, h1, by omega, h3⟩)
 ·rcases s3 x hx with ⟨h1, _⟩ | ⟨h1, h2, h3⟩
  ·exact h.Gx x h1
  ·have hn := h3 (by decide)
   rw [h.keys] at hn
   rw [h2, h1, HG]
   intro hK
   refine hn (.inl ⟨?_, hK⟩)
   intro e
   have := congrArg List.length e
   rw [List.length_take, List.length_nil] at this
   omega
theorem TD {ps : List Pa} {i : Nat} {p : Pa} {R : List Rw} (hp : ps[i]? = some p) (h : UI ps i p (p.length - 1) R) (h0 : 0 < p.length) (hl : p.length ≤ 150) : Jl ps (i + 1) (FO p i R false) := by
 obtain ⟨s1, s2, s3⟩ := KQ (p := p) (a := (i : Int)) h.Ty
 have hlen := IC p i R false
 refine ⟨s1, fun q => ?_, fun x hx => ?_, by have := h.len; simp at hlen; omega⟩
 ·rw [s2, h.keys, JD hp]
  constructor
  ·rintro (rfl | ⟨h1, h2⟩ | ⟨m, h1, h2, h3⟩)
   ·exact ⟨fun e => by rw [e] at h0; simp at h0, .inr ⟨q.length, by simp⟩⟩
   ·exact ⟨h1, .inl h2⟩
   ·refine ⟨fun e => ?_, .inr ⟨m, h3⟩⟩
    rw [e] at h3
    have := congrArg List.length h3
    rw [List.length_take, List.length_nil] at this
    omega
  ·rintro ⟨h1, h2 | ⟨m, h2⟩⟩
   ·exact .inr (.inl ⟨h1, h2⟩)
   ·by_cases hm : p.length ≤ m
    ·rw [List.take_of_length_le hm] at h2
     exact .inl h2
    ·refine .inr (.inr ⟨m, ?_, by omega, h2⟩)
     rcases Nat.eq_zero_or_pos m with e | e
     ·subst e; exact absurd (by rw [h2, List.take_zero]) h1
     ·exact e
 ·unfold DL
  rcases s3 x hx with ⟨h1, h2⟩ | ⟨h1, h2, _⟩
  ·have hne : x.L ≠ p := fun e => by have := h2 e; omega
   rw [if_neg (by rw [hp]; intro e; injection e with e; exact hne e.symm)]
   exact h.Gx x h1
  ·rw [if_pos (by rw [hp, h1]), h2]
theorem Rm {ps : List Pa} {i : Nat} {R : List Rw} (hp : ps[i]? = some ([] : Pa)) (h : UI ps i [] 0 R) : Jl ps (i + 1) R := by
 refine ⟨h.Ty, fun q => ?_, fun x hx => ?_, by have := h.len; omega⟩
 ·rw [h.keys, JD hp]
  constructor
  ·rintro (⟨h1, h2⟩ | ⟨m, h1, h2, h3⟩)
   ·exact ⟨h1, .inl h2⟩
   ·omega
  ·rintro ⟨h1, h2 | ⟨m, h2⟩⟩
   ·exact .inl ⟨h1, h2⟩
   ·exact absurd (by rw [h2]; simp) h1
 ·have hk := (h.keys x.L).1 (List.mem_map.2 ⟨x, hx, rfl⟩)
  have hne : x.L ≠ [] := by
   rcases hk with hk | ⟨m, h1, h2, h3⟩
   ·exact hk.1
   ·omega
  unfold DL
  rw [if_neg (by rw [hp]; intro e; injection e with e; exact hne e.symm)]
  exact h.Gx x hx
theorem Jl.W5 {ps : List Pa} {i : Nat} {R : List Rw} (h : Jl ps i R) (p : Pa) : UI ps i p 0 R := ⟨h.Ty, fun q => by
 rw [h.keys]
 constructor
 ·exact .inl
 ·rintro (h | ⟨m, h1, h2, _⟩)
  ·exact h
  ·omega, h.Gx, by have := h.len; omega⟩
theorem Mq {ps : List Pa} {i k : Nat} {p : Pa} {R : List Rw} (h : UI ps i p k R) (hb : ∀ p ∈ ps, p.length ≤ 150) (hp : p.length ≤ 150) : ∀ x ∈ R, x.L.length < 1000000 := fun x hx => by
 rcases (h.keys x.L).1 (List.mem_map.2 ⟨x, hx, rfl⟩) with ⟨_, hk⟩ | ⟨m, _, _, e⟩
 ·have := Mp hk hb; omega
 ·rw [e, List.length_take]; omega
structure Small (l : List Mb) : Prop where
 Mh : l.length ≤ 12
 names : ∀ m ∈ l, m.Name.length ≤ 100
 UC : ∀ m ∈ l, m.Data.length ≤ 2000
theorem Small.Dd {l : List Mb} (h : Small l) : ∀ p ∈ paths l, p.length ≤ 150 := fun p hp => by
 obtain ⟨m, hm, rfl⟩ := List.mem_map.1 hp
 have := IU m.Name
 have := h.names m hm
 omega
theorem Rf {l : List Mb} (hs : Small l) : W (Cd l) fun R => Jl (paths l) l.length R := by
 unfold Cd
 refine W.bind ?_
 refine (W.list (l := l) (enc := fun (R : List Rw) i => (R, (i : Int))) (P := fun R i => Jl (paths l) i R) (Q := fun R => Jl (paths l) l.length R) ?_ ?_ [] ⟨by simp, fun q => ⟨fun h => by simp at h, fun h => by obtain ⟨_, j, hj, _⟩ := h; omega⟩, (fun x hx => by cases hx), by simp⟩).mono fun R hR => W.ret hR
 ·intro R hR
  rw [Cn, AQ, if_neg (by omega)]
  exact W.ret hR
 ·intro R i hi hR
  have hp := OL hi
  have hmem := List.getElem_mem hi
  have hnl := hs.names _ hmem
  have hfew := hs.Mh
  have hpl : (Dd l[i].Name).length ≤ 150 := hs.Dd _ (List.mem_of_getElem? hp)
  obtain ⟨p, hpe⟩ : ∃ p, p = Dd l[i].Name := ⟨_, rfl⟩
  rw [Cn, AQ, if_pos (by omega), BO hi, Option.bind_some, QW (by omega), Option.bind_some]
  rw [← hpe] at hp hpl ⊢
  refine W.bind ?_
  refine W.bind ?_
  refine (W.list (l := List.replicate (p.length - 1) ()) (enc := fun (R : List Rw) k => (R, ((k + 1 : Nat) : Int))) (P := fun R k => UI (paths l) i p k R) (Q := fun R => UI (paths l) i p (p.length - 1) R) ?_ ?_ R (hR.W5 p)).mono fun R2 hR2 => ?_
  ·intro R2 h2
   rw [List.length_replicate] at h2 ⊢
   rw [Cj, AQ, if_neg (by omega)]
   exact W.ret h2
  ·intro R2 k hk h2
   rw [List.length_replicate] at hk
   have hlen := h2.len
   rw [Cj, AQ, if_pos (by omega), QG (by omega), Option.bind_some, put_eq (by omega) (by rw [List.length_take]; omega) (Mq h2 hs.Dd hpl), Option.bind_some, D5 (by omega)]
   exact W.ret ⟨_, rfl, R5 h2 (by omega)⟩
  ·have hlen := hR2.len
   by_cases h0 : 0 < p.length
   ·rw [AQ, if_pos (by omega), put_eq (by omega) (by omega) (Mq hR2 hs.Dd hpl), Option.bind_some]
    refine W.ret ?_
    rw [D5 (by omega)]
    exact W.ret ⟨_, rfl, TD hp hR2 h0 hpl⟩
   ·have hnil : p = [] := List.eq_nil_of_length_eq_zero (by omega)
    subst hnil
    rw [AQ, if_neg (by simp)]
    refine W.ret ?_
    rw [D5 (by omega)]
    exact W.ret ⟨_, rfl, Rm hp hR2⟩
end Go.Av.L
