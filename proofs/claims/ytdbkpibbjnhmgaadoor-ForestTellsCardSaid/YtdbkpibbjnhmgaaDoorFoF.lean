/-
 A part.
-/
import Derived.Test.YtdbkpibbjnhmgaaDoorFoE
namespace Go.Av.L
open Go.Av Go.Lib
set_option linter.unusedVariables false
set_option linter.unusedSimpArgs false
abbrev Nd := AG
structure AI (A : List Nd) (Ps : List Pa) : Prop where
 len : A.length = Ps.length
 root : Ps[0]? = some []
 Ic : ∀ (j : Nat) (x : Nd) (pj : Pa), A[j]? = some x → Ps[j]? = some pj → ∀ (c : Bw) (k : Nat), CY x.AP c = some k ↔ Ps[k]? = some (pj ++ [c])
 keys : ∀ x ∈ A, (x.AP.map Prod.fst).Nodup
 Tk : Ps.Nodup
 par : ∀ (k : Nat) (p : Pa) (c : Bw), Ps[k]? = some (p ++ [c]) → ∃ j, j < k ∧ Ps[j]? = some p
theorem Ff {α : Type} {l : List α} (h : l.Nodup) {i j : Nat} {x : α} (hi : l[i]? = some x) (hj : l[j]? = some x) : i = j := by
 have h1 := (List.getElem?_eq_some_iff.1 hi).1
 exact (List.getElem?_inj h1 h).1 (hi.trans hj.symm)
theorem AI.at_ {A : List Nd} {Ps : List Pa} (h : AI A Ps) {j : Nat} {x : Nd} (hx : A[j]? = some x) : ∃ p, Ps[j]? = some p := by
 have := (List.getElem?_eq_some_iff.1 hx).1
 exact ⟨_, List.getElem?_eq_getElem (by rw [← h.len]; exact this)⟩
theorem AI.node {A : List Nd} {Ps : List Pa} (h : AI A Ps) {j : Nat} {p : Pa} (hp : Ps[j]? = some p) : ∃ x, A[j]? = some x := by
 have := (List.getElem?_eq_some_iff.1 hp).1
 exact ⟨_, List.getElem?_eq_getElem (by rw [h.len]; exact this)⟩
theorem AI.same {A : List Nd} {Ps : List Pa} (h : AI A Ps) {j : Nat} {x y : Nd} (hx : A[j]? = some x) (hk : y.AP = x.AP) : AI (A.set j y) Ps := by
 have hj := (List.getElem?_eq_some_iff.1 hx).1
 refine ⟨by rw [List.length_set]; exact h.len, h.root, fun i z pi hz hp c k => ?_, fun z hz => ?_, h.Tk, h.par⟩
 ·rw [List.getElem?_set] at hz
  split at hz
  ·rename_i e
   subst e
   try rw [if_pos hj] at hz
   injection hz with hz
   subst hz
   rw [hk]
   exact h.Ic j x pi hx hp c k
  ·exact h.Ic i z pi hz hp c k
 ·rcases List.mem_or_eq_of_mem_set hz with hz | rfl
  ·exact h.keys z hz
  ·rw [hk]; exact h.keys x (List.mem_of_getElem? hx)
theorem Hy {α : Type} {p q : List α} {c d : α} (h : p ++ [c] = q ++ [d]) : p = q ∧ c = d := by
 have := List.append_inj' h rfl
 exact ⟨this.1, by simpa using this.2⟩
theorem AI.add {A : List Nd} {Ps : List Pa} (h : AI A Ps) {j : Nat} {x : Nd} {p : Pa} {c : Bw} (hx : A[j]? = some x) (hp : Ps[j]? = some p) (hn : CY x.AP c = none) (f y : Nd) (hf : f.AP = []) (hy : y.AP = D7 x.AP c A.length) :
  AI ((A ++ [f]).set j y) (Ps ++ [p ++ [c]]) := by
 have hj := (List.getElem?_eq_some_iff.1 hx).1
 have hnew : ∀ k : Nat, Ps[k]? ≠ some (p ++ [c]) := fun k hk => by
  have := (h.Ic j x p hx hp c k).2 hk
  rw [hn] at this
  cases this
 have atP : ∀ (k : Nat) (q : Pa), (Ps ++ [p ++ [c]])[k]? = some q ↔ Ps[k]? = some q ∨ (k = Ps.length ∧ q = p ++ [c]) := fun k q => by
  rw [List.getElem?_append]
  split
  ·rename_i hk
   constructor
   ·exact .inl
   ·rintro (h | ⟨h, _⟩)
    ·exact h
    ·omega
  ·rename_i hk
   constructor
   ·intro h
    have h0 := (List.getElem?_eq_some_iff.1 h).1
    simp at h0
    have e : k = Ps.length := by omega
    subst e
    simp at h
    exact .inr ⟨rfl, h.symm⟩
   ·rintro (h | ⟨h1, h2⟩)
    ·have := (List.getElem?_eq_some_iff.1 h).1
     omega
    ·subst h1; subst h2; simp
 have noLong : ∀ k (d : Bw), Ps[k]? ≠ some (p ++ [c] ++ [d]) := fun k d hk => by
  obtain ⟨j', _, h2⟩ := h.par k (p ++ [c]) d hk
  exact hnew j' h2
 refine ⟨by simp [h.len], (atP 0 []).2 (.inl h.root), fun i z pi hz hpi d k => ?_, fun z hz => ?_, ?_, fun k q d hk => ?_⟩
 ·rw [List.getElem?_set] at hz
  split at hz
  ·rename_i e
   subst e
   try rw [if_pos (by simp; omega)] at hz
   injection hz with hz
   subst hz
   have hpe : pi = p := by
    rcases (atP j pi).1 hpi with h1 | ⟨h1, _⟩
    ·rw [hp] at h1; injection h1 with h1; exact h1.symm
    ·rw [← h.len] at h1; omega
   subst hpe
   rw [hy, QD, atP]
   by_cases hd : d = c
   ·subst hd
    rw [if_pos rfl]
    constructor
    ·intro e; injection e with e; exact .inr ⟨by rw [← h.len]; exact e.symm, rfl⟩
    ·rintro (h1 | ⟨h1, _⟩)
     ·exact absurd h1 (hnew k)
     ·rw [h1, h.len]
   ·rw [if_neg hd, h.Ic j x pi hx hp d k]
    constructor
    ·exact .inl
    ·rintro (h1 | ⟨_, h1⟩)
     ·exact h1
     ·exact absurd (Hy h1).2 hd
  ·rename_i hne
   rw [List.getElem?_append] at hz
   split at hz
   ·rename_i hi
    rw [atP]
    rcases (atP i pi).1 hpi with h1 | ⟨h1, _⟩
    ·rw [h.Ic i z pi hz h1 d k]
     constructor
     ·exact .inl
     ·rintro (h2 | ⟨_, h2⟩)
      ·exact h2
      ·have := (Hy h2).1
       subst this
       exact absurd (Ff h.Tk hp h1) hne
    ·rw [← h.len] at h1; omega
   ·rename_i hi
    have h0 := (List.getElem?_eq_some_iff.1 hz).1
    simp at h0
    have e : i = A.length := by omega
    subst e
    simp at hz
    subst hz
    have hpe : pi = p ++ [c] := by
     rcases (atP A.length pi).1 hpi with h1 | ⟨_, h1⟩
     ·have := (List.getElem?_eq_some_iff.1 h1).1
      rw [h.len] at this
      omega
     ·exact h1
    subst hpe
    rw [hf, atP]
    constructor
    ·intro e; cases e
    ·rintro (h1 | ⟨_, h1⟩)
     ·exact absurd h1 (noLong k d)
     ·have := congrArg List.length h1
      simp at this
 ·rcases List.mem_or_eq_of_mem_set hz with hz | rfl
  ·rcases List.mem_append.1 hz with hz | hz
   ·exact h.keys z hz
   ·rw [List.mem_singleton.1 hz, hf]; exact List.nodup_nil
  ·rw [hy]; exact Pu (h.keys x (List.mem_of_getElem? hx)) c _
 ·rw [List.nodup_append]
  refine ⟨h.Tk, by simp, fun a ha b hb => ?_⟩
  rw [List.mem_singleton.1 hb]
  rintro rfl
  obtain ⟨k, hk⟩ := List.mem_iff_getElem?.1 ha
  exact hnew k hk
 ·rcases (atP k _).1 hk with h1 | ⟨h1, h2⟩
  ·obtain ⟨j', a1, a2⟩ := h.par k q d h1
   exact ⟨j', a1, (atP j' q).2 (.inl a2)⟩
  ·obtain ⟨e1, _⟩ := Hy h2
   subst e1
   exact ⟨j, by rw [h1, ← h.len]; exact hj, (atP j q).2 (.inl hp)⟩
def Qu (l : List Mb) (a : Int) : Int := if a < 0 then 0 else (((l[a.toNat]?).map fun m => (m.Data.length : Int)).getD 0)
structure GL (l : List Mb) (i : Nat) (A : List Nd) (Ps : List Pa) : Prop where
 ai : AI A Ps
 all : ∀ q, q ∈ Ps ↔ q = [] ∨ IH (paths l) i q
 IS : ∀ (j : Nat) (x : Nd) (p : Pa), A[j]? = some x → Ps[j]? = some p → x.at_ = (if p = [] then -1 else C2 (paths l) i p) ∧ x.Dp = Qu l x.at_
 Ky : A.length ≤ 1 + 200 * i
structure W2 (l : List Mb) (i : Nat) (p : Pa) (k : Nat) (A : List Nd) (Ps : List Pa) (j : Nat) : Prop where
 ai : AI A Ps
 all : ∀ q, q ∈ Ps ↔ q = [] ∨ IH (paths l) i q ∨ ∃ m, m ≤ k ∧ q = p.take m
 IS : ∀ (j : Nat) (x : Nd) (p : Pa), A[j]? = some x → Ps[j]? = some p → x.at_ = (if p = [] then -1 else C2 (paths l) i p) ∧ x.Dp = Qu l x.at_
 Ky : A.length ≤ 1 + 200 * i + k
 here : Ps[j]? = some (p.take k)
theorem Tt {l : List Mb} {i : Nat} {p : Pa} (hi : i ≤ 12) (hl : p.length ≤ 150) {A0 : List Nd} {Ps0 : List Pa} (h0 : W2 l i p 0 A0 Ps0 0) :
  W (loop (DG p) (((A0.length - 1 : Nat) : Int), A0, 0, 0)) fun r => ∃ Ps, W2 l i p p.length r.2.1 Ps r.2.2 ∧ r.1 = ((r.2.1.length - 1 : Nat) : Int) := by
 refine W.list (l := p) (enc := fun (s : List Nd × Nat) k => (((s.1.length - 1 : Nat) : Int), s.1, s.2, (k : Int))) (P := fun s k => ∃ Ps, W2 l i p k s.1 Ps s.2) ?_ ?_ (A0, 0) ⟨Ps0, h0⟩
 ·rintro ⟨A, j⟩ ⟨Ps, h⟩
  rw [DG, AR, if_neg (by omega)]
  exact W.ret ⟨Ps, h, rfl⟩
 ·rintro ⟨A, j⟩ k hk ⟨Ps, h⟩
  simp only at h ⊢
  have hfew := h.Ky
  obtain ⟨x, hx⟩ := h.ai.node h.here
  have hj := (List.getElem?_eq_some_iff.1 hx).1
  have etk : p.take (k + 1) = p.take k ++ [p[k]] := CH (List.getElem?_eq_getElem hk)
  rw [DG, AR, if_pos (by omega), Br hk, Option.bind_some, hx, Option.bind_some]
  cases hm : CY x.AP p[k] with
  | some k' =>
   simp only [Ks, Option.bind_some]
   rw [Eh (by omega)]
   have hk' := (h.ai.Ic j x _ hx h.here p[k] k').1 hm
   rw [← etk] at hk'
   refine W.ret ⟨(A, k'), rfl, Ps, h.ai, fun q => ?_, h.IS, (by show A.length ≤ _; omega), hk'⟩
   rw [h.all]
   constructor
   ·rintro (h1 | h1 | ⟨m, h1, h2⟩)
    ·exact .inl h1
    ·exact .inr (.inl h1)
    ·exact .inr (.inr ⟨m, by omega, h2⟩)
   ·rintro (h1 | h1 | ⟨m, h1, h2⟩)
    ·exact .inl h1
    ·exact .inr (.inl h1)
    ·by_cases e : m = k + 1
     ·subst e
      have : q ∈ Ps := by rw [h2]; exact List.mem_of_getElem? hk'
      exact (h.all q).1 this
     ·exact .inr (.inr ⟨m, by omega, h2⟩)
  | none =>
   have e26 : (A ++ [(⟨-1, 0, []⟩ : Nd)])[j]? = some x := by rw [List.getElem?_append_left hj]; exact hx
   have e0 : 0 < A.length := by omega
   simp only [Ks, CW, Option.bind_some, List.isEmpty_nil, Ao, e26, decide_eq_true hj, decide_eq_true e0]
   rw [decide_eq_true (by simp), Ao, Option.bind_some]
   dsimp only
   have e11 : IntKind.i64.wrap (((A.length - 1 : Nat) : Int) + 1) = (((A ++ [(⟨-1, 0, []⟩ : Nd)]).set j (⟨x.at_, x.Dp, D7 x.AP p[k] A.length⟩ : Nd)).length - 1 : Nat) := by
    rw [V2 (by omega) (by omega)]; simp; omega
   rw [e11, Eh (by omega)]
   have hnewP : ¬ IH (paths l) i (p.take (k + 1)) := fun hK => by
    have : p.take (k + 1) ∈ Ps := (h.all _).2 (.inr (.inl hK))
    obtain ⟨k', hk'⟩ := List.mem_iff_getElem?.1 this
    rw [etk] at hk'
    have := (h.ai.Ic j x _ hx h.here p[k] k').2 hk'
    rw [hm] at this
    cases this
   have hadd := h.ai.add hx h.here hm ⟨-1, 0, []⟩ ⟨x.at_, x.Dp, D7 x.AP p[k] A.length⟩ rfl rfl
   rw [← etk] at hadd
   refine W.ret ⟨((A ++ [(⟨-1, 0, []⟩ : Nd)]).set j (⟨x.at_, x.Dp, D7 x.AP p[k] A.length⟩ : Nd), A.length), rfl, Ps ++ [p.take (k + 1)], hadd, fun q => ?_, fun j2 z q hz hq => ?_, by simp; omega, ?_⟩
   ·rw [List.mem_append, h.all, List.mem_singleton]
    constructor
    ·rintro ((h1 | h1 | ⟨m, h1, h2⟩) | h1)
     ·exact .inl h1
     ·exact .inr (.inl h1)
     ·exact .inr (.inr ⟨m, by omega, h2⟩)
     ·exact .inr (.inr ⟨k + 1, by omega, h1⟩)
    ·rintro (h1 | h1 | ⟨m, h1, h2⟩)
     ·exact .inl (.inl h1)
     ·exact .inl (.inr (.inl h1))
     ·by_cases e : m = k + 1
      ·subst e; exact .inr h2
      ·exact .inl (.inr (.inr ⟨m, by omega, h2⟩))
   ·rw [List.getElem?_set] at hz
    split at hz
    ·rename_i e
     subst e
     try rw [if_pos (by simp; omega)] at hz
     injection hz with hz
     subst hz
     rw [List.getElem?_append_left (by rw [← h.ai.len]; exact hj)] at hq
     exact h.IS j x q hx hq
    ·rw [List.getElem?_append] at hz
     split at hz
     ·rename_i hi2
      rw [List.getElem?_append_left (by rw [← h.ai.len]; exact hi2)] at hq
      exact h.IS j2 z q hz hq
     ·have h0 := (List.getElem?_eq_some_iff.1 hz).1
      simp at h0
      have e : j2 = A.length := by omega
      subst e
      simp at hz
      subst hz
      rw [h.ai.len] at hq
      simp at hq
      subst hq
      have hne : p.take (k + 1) ≠ [] := fun e => by
       have := congrArg List.length e
       rw [List.length_take, List.length_nil] at this
       omega
      rw [if_neg hne, G7 hnewP]
      exact ⟨rfl, rfl⟩
   ·rw [h.ai.len]; simp
theorem GL.bin {l : List Mb} {i : Nat} {A : List Nd} {Ps : List Pa} (h : GL l i A Ps) (p : Pa) : W2 l i p 0 A Ps 0 := ⟨h.ai, fun q => by
 rw [h.all]
 constructor
 ·rintro (h1 | h1)
  ·exact .inl h1
  ·exact .inr (.inl h1)
 ·rintro (h1 | h1 | ⟨m, h1, h2⟩)
  ·exact .inl h1
  ·exact .inr h1
  ·have : m = 0 := by omega
   subst this
   exact .inl (by rw [h2, List.take_zero]), h.IS, h.Ky, by rw [List.take_zero]; exact h.ai.root⟩
theorem Q7 {l : List Mb} {i : Nat} {p : Pa} (hp : (paths l)[i]? = some p) (q : Pa) : (q = [] ∨ IH (paths l) i q ∨ ∃ m, m ≤ p.length ∧ q = p.take m) ↔ (q = [] ∨ IH (paths l) (i + 1) q) := by
 rw [JA hp]
 constructor
 ·rintro (h | h | ⟨m, _, h⟩)
  ·exact .inl h
  ·exact .inr (.inl h)
  ·exact .inr (.inr ⟨m, h⟩)
 ·rintro (h | h | ⟨m, h⟩)
  ·exact .inl h
  ·exact .inr (.inl h)
  ·by_cases hm : m ≤ p.length
   ·exact .inr (.inr ⟨m, hm, h⟩)
   ·exact .inr (.inr ⟨p.length, Nat.le_refl _, by rw [h, List.take_of_length_le (by omega), List.take_length]⟩)
theorem SF {l : List Mb} (hs : Small l) : W (Ds l) fun r => r.1.Au = 0 ∧ r.1.n_ = ((r.2.length - 1 : Nat) : Int) ∧ ∃ Ps, GL l l.length r.2 Ps := by
 unfold Ds
 simp only [CW, Option.bind_some, List.isEmpty_nil, Ao]
 refine W.bind ?_
 have h0 : GL l 0 [(⟨-1, 0, []⟩ : Nd)] [[]] := by
  refine ⟨⟨rfl, rfl, fun j x pj hx hp c k => ?_, fun x hx => ?_, by simp, fun k p c hk => ?_⟩, fun q => ?_, fun j x p hx hp => ?_, by simp⟩
  ·have e : j = 0 := by have := (List.getElem?_eq_some_iff.1 hx).1; simp at this; exact this
   subst e
   simp at hx hp
   subst hx; subst hp
   constructor
   ·intro e; cases e
   ·intro e
    have e2 : k = 0 := by have := (List.getElem?_eq_some_iff.1 e).1; simp at this; exact this
    subst e2
    simp at e
  ·simp at hx; subst hx; exact List.nodup_nil
  ·have e2 : k = 0 := by have := (List.getElem?_eq_some_iff.1 hk).1; simp at this; exact this
   subst e2
   simp at hk
  ·simp only [List.mem_singleton]
   constructor
   ·exact .inl
   ·rintro (h | ⟨j, hj, _⟩)
    ·exact h
    ·omega
  ·have e : j = 0 := by have := (List.getElem?_eq_some_iff.1 hx).1; simp at this; exact this
   subst e
   simp at hx hp
   subst hx; subst hp
   exact ⟨rfl, rfl⟩
 refine (W.list (l := l) (enc := fun (A : List Nd) i => (((A.length - 1 : Nat) : Int), A, (i : Int))) (P := fun A i => ∃ Ps, GL l i A Ps) (Q := fun r => r.1 = ((r.2.length - 1 : Nat) : Int) ∧ ∃ Ps, GL l l.length r.2 Ps) ?_ ?_ [(⟨-1, 0, []⟩ : Nd)] ⟨_, h0⟩).mono ?_
 ·rintro A ⟨Ps, h⟩
  rw [Dj, AR, if_neg (by omega)]
  exact W.ret ⟨rfl, Ps, h⟩
 ·rintro A i hi ⟨Ps, h⟩
  have hp := Oo hi
  have hmem := List.getElem_mem hi
  have hnl := hs.names _ hmem
  have hdl := hs.WC _ hmem
  have hfew := hs.Ky
  have hpl : (D1 l[i].Name).length ≤ 150 := hs.D1 _ (List.mem_of_getElem? hp)
  obtain ⟨p, hpe⟩ : ∃ p, p = D1 l[i].Name := ⟨_, rfl⟩
  rw [Dj, AR, if_pos (by omega), Br hi, Option.bind_some, parts_eq (by omega), Option.bind_some]
  rw [← hpe] at hp hpl ⊢
  refine W.bind (W.bind ?_)
  refine (Tt (l := l) (i := i) (p := p) (by omega) hpl (h.bin p)).mono ?_
  rintro ⟨n, A2, j⟩ ⟨Ps2, h2, hn⟩
  simp only at h2 hn ⊢
  subst hn
  obtain ⟨x, hx⟩ := h2.ai.node h2.here
  obtain ⟨r0, hr0⟩ := h2.ai.node h2.ai.root
  have hj := (List.getElem?_eq_some_iff.1 hx).1
  have hhere := h2.here
  rw [List.take_length] at hhere
  rw [hx, Option.bind_some, hr0, Option.bind_some]
  have hlast : ∀ q : Pa, q ≠ p → C2 (paths l) (i + 1) q = C2 (paths l) i q := fun q hq => by
   show (if (paths l)[i]? = some q then (i : Int) else C2 (paths l) i q) = _
   rw [if_neg (by rw [hp]; intro e; injection e with e; exact hq e.symm)]
  have hf2 := h2.Ky
  by_cases hj0 : j = 0
  ·subst hj0
   have hpn : p = [] := by
    have := h2.ai.root
    rw [hhere] at this
    injection this
   rw [Nat.beq_refl, Bool.not_true, A7]
   refine W.ret ?_
   dsimp only
   rw [Eh (by omega)]
   refine W.ret ⟨A2, rfl, Ps2, h2.ai, fun q => (h2.all q).trans (Q7 hp q), fun j2 z q hz hq => ?_, by rw [hpn] at hf2; simp at hf2; omega⟩
   have := h2.IS j2 z q hz hq
   by_cases hq0 : q = []
   ·rw [if_pos hq0] at this ⊢; exact this
   ·rw [if_neg hq0] at this ⊢
    rw [hlast q (by rw [hpn]; exact hq0)]
    exact this
  ·have hpn : p ≠ [] := fun e => by
    rw [e] at hhere
    exact hj0 (Ff h2.ai.Tk hhere h2.ai.root)
   have hb : Nat.beq j 0 = false := by
    cases hb : Nat.beq j 0 with
    | false => rfl
    | true => exact absurd (Nat.eq_of_beq_eq_true hb) hj0
   rw [hb, Bool.not_false, BY, Option.bind_some]
   rw [List.getElem?_set_self hj, Option.bind_some]
   refine W.ret ?_
   dsimp only
   rw [List.set_set, Eh (by omega)]
   have hlen : ((A2.set j (⟨(i : Int), (l[i].Data.length : Int), x.AP⟩ : Nd)).length - 1 : Nat) = A2.length - 1 := by simp
   refine W.ret ⟨A2.set j (⟨(i : Int), (l[i].Data.length : Int), x.AP⟩ : Nd), by rw [hlen], Ps2, h2.ai.same hx rfl, fun q => (h2.all q).trans (Q7 hp q), fun j2 z q hz hq => ?_, by rw [List.length_set]; omega⟩
   rw [List.getElem?_set] at hz
   split at hz
   ·rename_i e
    subst e
    try rw [if_pos hj] at hz
    injection hz with hz
    subst hz
    rw [hhere] at hq
    injection hq with hq
    subst hq
    rw [if_neg hpn]
    refine ⟨?_, ?_⟩
    ·show (i : Int) = (if (paths l)[i]? = some p then (i : Int) else C2 (paths l) i p)
     rw [if_pos hp]
    ·show (l[i].Data.length : Int) = Qu l (i : Int)
     unfold Qu
     rw [if_neg (by omega), Int.toNat_natCast, List.getElem?_eq_getElem hi]
     rfl
   ·rename_i hne
    have := h2.IS j2 z q hz hq
    by_cases hq0 : q = []
    ·rw [if_pos hq0] at this ⊢; exact this
    ·rw [if_neg hq0] at this ⊢
     rw [hlast q (fun e => hne (by rw [e] at hq; exact Ff h2.ai.Tk hhere hq))]
     exact this
 ·rintro ⟨n, A⟩ ⟨h1, h2⟩
  exact W.ret ⟨rfl, h1, h2⟩
end Go.Av.L
