/-
 A part.
-/
import Derived.Test.YtdbkpibbjnhmgaaDoorFoD
namespace Go.Av.L
open Go.Av Go.Lib
set_option linter.unusedVariables false
set_option linter.unusedSimpArgs false
noncomputable def DZ (ps : List Pa) : Nat → Pa → Int
 | 0, _ => -1
 | i + 1, q => if ps[i]? = some q then (i : Int) else DZ ps i q
def HL (ps : List Pa) (i : Nat) (q : Pa) : Prop := ∃ j, j < i ∧ ∃ p, ps[j]? = some p ∧ ∃ m, q = p.take m
theorem Gb {ps : List Pa} : ∀ {i : Nat} {q : Pa}, ¬ HL ps i q → DZ ps i q = -1
 | 0, q, _ => rfl
 | i + 1, q, h => by
  unfold DZ
  rw [if_neg, Gb]
  ·rintro ⟨j, hj, p, hp, m, hm⟩
   exact h ⟨j, by omega, p, hp, m, hm⟩
  ·intro e
   exact h ⟨i, by omega, q, e, q.length, by simp⟩
theorem IS {ps : List Pa} {i : Nat} {p : Pa} (hp : ps[i]? = some p) (q : Pa) : HL ps (i + 1) q ↔ HL ps i q ∨ ∃ m, q = p.take m := by
 constructor
 ·rintro ⟨j, hj, p', hp', m, hm⟩
  by_cases e : j = i
  ·subst e
   rw [hp] at hp'
   injection hp' with hp'
   subst hp'
   exact .inr ⟨m, hm⟩
  ·exact .inl ⟨j, by omega, p', hp', m, hm⟩
 ·rintro (⟨j, hj, r⟩ | ⟨m, hm⟩)
  ·exact ⟨j, by omega, r⟩
  ·exact ⟨i, by omega, p, hp, m, hm⟩
abbrev paths (l : List Mb) : List Pa := l.map fun m => JB m.Name
theorem Nl {l : List Mb} {i : Nat} (h : i < l.length) : (paths l)[i]? = some (JB l[i].Name) := by
 rw [List.getElem?_map, List.getElem?_eq_getElem h]; rfl
structure MS (ps : List Pa) (i : Nat) (R : List Rw) : Prop where
 UU : (R.map (·.L)).Pairwise HR
 keys : ∀ q, q ∈ R.map (·.L) ↔ q ≠ [] ∧ HL ps i q
 IT : ∀ x ∈ R, x.At = DZ ps i x.L
 len : R.length ≤ 200 * i
structure TY (ps : List Pa) (i : Nat) (p : Pa) (k : Nat) (R : List Rw) : Prop where
 UU : (R.map (·.L)).Pairwise HR
 keys : ∀ q, q ∈ R.map (·.L) ↔ (q ≠ [] ∧ HL ps i q) ∨ ∃ m, 1 ≤ m ∧ m ≤ k ∧ q = p.take m
 IT : ∀ x ∈ R, x.At = DZ ps i x.L
 len : R.length ≤ 200 * i + k
theorem QM {ps : List Pa} {i : Nat} {q : Pa} (h : HL ps i q) (hb : ∀ p ∈ ps, p.length ≤ 150) : q.length ≤ 150 := by
 obtain ⟨j, _, p, hp, m, rfl⟩ := h
 rw [List.length_take]
 have := hb p (List.mem_of_getElem? hp)
 omega
theorem RT {ps : List Pa} {i k : Nat} {p : Pa} {R : List Rw} (h : TY ps i p k R) (hk : k + 1 < p.length) : TY ps i p (k + 1) (Es (p.take (k + 1)) (-1) R false) := by
 obtain ⟨s1, s2, s3⟩ := JY (p := p.take (k + 1)) (a := -1) h.UU
 have hl := Hh (p.take (k + 1)) (-1) R false
 refine ⟨s1, fun q => ?_, fun x hx => ?_, by have := h.len; simp at hl; omega⟩
 ·rw [s2, h.keys]
  constructor
  ·rintro (rfl | h | ⟨m, h1, h2, h3⟩)
   ·exact .inr ⟨k + 1, by omega, by omega, rfl⟩
   ·exact .inl h
   ·exact .inr ⟨m, h1, by omega, h3⟩
  ·rintro (h | ⟨m, h1, h2, h3⟩)
   ·exact .inr (.inl h)
   ·by_cases e : m = k + 1
    ·subst e; exact .inl h3
    ·exact .inr (.inr ⟨m, h1, by omega, h3⟩)
 ·rcases s3 x hx with ⟨h1, _⟩ | ⟨h1, h2, h3⟩
  ·exact h.IT x h1
  ·have hn := h3 (by decide)
   rw [h.keys] at hn
   rw [h2, h1, Gb]
   intro hK
   refine hn (.inl ⟨?_, hK⟩)
   intro e
   have := congrArg List.length e
   rw [List.length_take, List.length_nil] at this
   omega
theorem Su {ps : List Pa} {i : Nat} {p : Pa} {R : List Rw} (hp : ps[i]? = some p) (h : TY ps i p (p.length - 1) R) (h0 : 0 < p.length) (hl : p.length ≤ 150) : MS ps (i + 1) (Es p i R false) := by
 obtain ⟨s1, s2, s3⟩ := JY (p := p) (a := (i : Int)) h.UU
 have hlen := Hh p i R false
 refine ⟨s1, fun q => ?_, fun x hx => ?_, by have := h.len; simp at hlen; omega⟩
 ·rw [s2, h.keys, IS hp]
  constructor
  ·rintro (rfl | ⟨h1, h2⟩ | ⟨m, h1, h2, h3⟩)
   ·exact ⟨fun e => by rw [e] at h0; simp at h0, .inr ⟨q.length, by simp⟩⟩
   ·exact ⟨h1, .inl h2⟩
   ·refine ⟨fun e => ?_, .inr ⟨m, h3⟩⟩
    rw [e] at h3
    have := congrArg List.length h3
    rw [List.length_take, List.length_nil] at this
    omega
  ·rintro ⟨h1, h2 | ⟨m, h2⟩⟩
   ·exact .inr (.inl ⟨h1, h2⟩)
   ·by_cases hm : p.length ≤ m
    ·rw [List.take_of_length_le hm] at h2
     exact .inl h2
    ·refine .inr (.inr ⟨m, ?_, by omega, h2⟩)
     rcases Nat.eq_zero_or_pos m with e | e
     ·subst e; exact absurd (by rw [h2, List.take_zero]) h1
     ·exact e
 ·unfold DZ
  rcases s3 x hx with ⟨h1, h2⟩ | ⟨h1, h2, _⟩
  ·have hne : x.L ≠ p := fun e => by have := h2 e; omega
   rw [if_neg (by rw [hp]; intro e; injection e with e; exact hne e.symm)]
   exact h.IT x h1
  ·rw [if_pos (by rw [hp, h1]), h2]
theorem Qp {ps : List Pa} {i : Nat} {R : List Rw} (hp : ps[i]? = some ([] : Pa)) (h : TY ps i [] 0 R) : MS ps (i + 1) R := by
 refine ⟨h.UU, fun q => ?_, fun x hx => ?_, by have := h.len; omega⟩
 ·rw [h.keys, IS hp]
  constructor
  ·rintro (⟨h1, h2⟩ | ⟨m, h1, h2, h3⟩)
   ·exact ⟨h1, .inl h2⟩
   ·omega
  ·rintro ⟨h1, h2 | ⟨m, h2⟩⟩
   ·exact .inl ⟨h1, h2⟩
   ·exact absurd (by rw [h2]; simp) h1
 ·have hk := (h.keys x.L).1 (List.mem_map.2 ⟨x, hx, rfl⟩)
  have hne : x.L ≠ [] := by
   rcases hk with hk | ⟨m, h1, h2, h3⟩
   ·exact hk.1
   ·omega
  unfold DZ
  rw [if_neg (by rw [hp]; intro e; injection e with e; exact hne e.symm)]
  exact h.IT x hx
theorem MS.WX {ps : List Pa} {i : Nat} {R : List Rw} (h : MS ps i R) (p : Pa) : TY ps i p 0 R := ⟨h.UU, fun q => by
 rw [h.keys]
 constructor
 ·exact .inl
 ·rintro (h | ⟨m, h1, h2, _⟩)
  ·exact h
  ·omega, h.IT, by have := h.len; omega⟩
theorem L4 {ps : List Pa} {i k : Nat} {p : Pa} {R : List Rw} (h : TY ps i p k R) (hb : ∀ p ∈ ps, p.length ≤ 150) (hp : p.length ≤ 150) : ∀ x ∈ R, x.L.length < 1000000 := fun x hx => by
 rcases (h.keys x.L).1 (List.mem_map.2 ⟨x, hx, rfl⟩) with ⟨_, hk⟩ | ⟨m, _, _, e⟩
 ·have := QM hk hb; omega
 ·rw [e, List.length_take]; omega
structure Small (l : List Mb) : Prop where
 OS : l.length ≤ 12
 names : ∀ m ∈ l, m.Name.length ≤ 100
 Uo : ∀ m ∈ l, m.Data.length ≤ 2000
theorem Small.JB {l : List Mb} (h : Small l) : ∀ p ∈ paths l, p.length ≤ 150 := fun p hp => by
 obtain ⟨m, hm, rfl⟩ := List.mem_map.1 hp
 have := PQ m.Name
 have := h.names m hm
 omega
theorem Qg {l : List Mb} (hs : Small l) : W (CF l) fun R => MS (paths l) l.length R := by
 unfold CF
 refine W.bind ?_
 refine (W.list (l := l) (enc := fun (R : List Rw) i => (R, (i : Int))) (P := fun R i => MS (paths l) i R) (Q := fun R => MS (paths l) l.length R) ?_ ?_ [] ⟨by simp, fun q => ⟨fun h => by simp at h, fun h => by obtain ⟨_, j, hj, _⟩ := h; omega⟩, (fun x hx => by cases hx), by simp⟩).mono fun R hR => W.ret hR
 ·intro R hR
  rw [CN, AU, if_neg (by omega)]
  exact W.ret hR
 ·intro R i hi hR
  have hp := Nl hi
  have hmem := List.getElem_mem hi
  have hnl := hs.names _ hmem
  have hfew := hs.OS
  have hpl : (JB l[i].Name).length ≤ 150 := hs.JB _ (List.mem_of_getElem? hp)
  obtain ⟨p, hpe⟩ : ∃ p, p = JB l[i].Name := ⟨_, rfl⟩
  rw [CN, AU, if_pos (by omega), CD hi, Option.bind_some, S7 (by omega), Option.bind_some]
  rw [← hpe] at hp hpl ⊢
  refine W.bind ?_
  refine W.bind ?_
  refine (W.list (l := List.replicate (p.length - 1) ()) (enc := fun (R : List Rw) k => (R, ((k + 1 : Nat) : Int))) (P := fun R k => TY (paths l) i p k R) (Q := fun R => TY (paths l) i p (p.length - 1) R) ?_ ?_ R (hR.WX p)).mono fun R2 hR2 => ?_
  ·intro R2 h2
   rw [List.length_replicate] at h2 ⊢
   rw [CO, AU, if_neg (by omega)]
   exact W.ret h2
  ·intro R2 k hk h2
   rw [List.length_replicate] at hk
   have hlen := h2.len
   rw [CO, AU, if_pos (by omega), PD (by omega), Option.bind_some, put_eq (by omega) (by rw [List.length_take]; omega) (L4 h2 hs.JB hpl), Option.bind_some, E6 (by omega)]
   exact W.ret ⟨_, rfl, RT h2 (by omega)⟩
  ·have hlen := hR2.len
   by_cases h0 : 0 < p.length
   ·rw [AU, if_pos (by omega), put_eq (by omega) (by omega) (L4 hR2 hs.JB hpl), Option.bind_some]
    refine W.ret ?_
    rw [E6 (by omega)]
    exact W.ret ⟨_, rfl, Su hp hR2 h0 hpl⟩
   ·have hnil : p = [] := List.eq_nil_of_length_eq_zero (by omega)
    subst hnil
    rw [AU, if_neg (by simp)]
    refine W.ret ?_
    rw [E6 (by omega)]
    exact W.ret ⟨_, rfl, Qp hp hR2⟩
end Go.Av.L
