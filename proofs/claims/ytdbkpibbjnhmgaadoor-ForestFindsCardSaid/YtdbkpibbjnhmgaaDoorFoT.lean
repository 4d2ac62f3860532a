/-
 A part.
-/
import Derived.Test.YtdbkpibbjnhmgaaDoorFoR
namespace Go.Av.L
open Go.Av Go.Lib
set_option linter.unusedVariables false
set_option linter.unusedSimpArgs false
noncomputable def placeOf (A : List Nd) (Ps : List Pa) (p : Pa) : Int × Bool := if p ∈ Ps ∧ p ≠ [] then (MA A (Ps.idxOf p), true) else (0, false)
theorem R4 {Ps : List Pa} {p : Pa} {k : Nat} (hn : Ps.Nodup) (h : Ps[k]? = some p) : Ps.idxOf p = k := by
 have hm : p ∈ Ps := List.mem_of_getElem? h
 have hlt := List.idxOf_lt_length_of_mem hm
 have e : Ps[Ps.idxOf p]? = some p := by rw [List.getElem?_eq_getElem hlt, List.getElem_idxOf hlt]
 exact El hn e h
theorem Tc {l : List Mb} (hs : Small l) {A : List Nd} {Ps : List Pa} (h : JC l l.length A Ps) {f : Aj} (hf : f.Bb = 0) {s : B9} (hl : s.length ≤ 200) : Ch f s A = some (placeOf A Ps (Dd s)) := by
 unfold Ch
 rcases find_eq hs h hf hl with ⟨k, h1, h2⟩ | ⟨h1, h2⟩
 ·rw [h1, Option.bind_some]
  dsimp only
  obtain ⟨x, hx⟩ := h.ai.node h2
  obtain ⟨r0, hr0⟩ := h.ai.node h.ai.root
  rw [hf, hx, Option.bind_some, hr0, Option.bind_some]
  by_cases hk : k = 0
  ·subst hk
   have e : Dd s = [] := by
    have := h.ai.root
    rw [h2] at this
    injection this
   rw [Nat.beq_refl, BE]
   unfold placeOf
   rw [if_neg (by rw [e]; simp)]
  ·have e : Dd s ≠ [] := fun e => by
    rw [e] at h2
    exact hk (El h.ai.RQ h2 h.ai.root)
   have hb : Nat.beq k 0 = false := by
    cases hb : Nat.beq k 0 with
    | false => rfl
    | true => exact absurd (Nat.eq_of_beq_eq_true hb) hk
   rw [hb, Ay, Option.bind_some]
   unfold placeOf
   rw [if_pos ⟨List.mem_of_getElem? h2, e⟩, R4 h.ai.RQ h2]
   unfold MA
   rw [hx]; rfl
 ·rw [h1, Option.bind_some]
  dsimp only
  unfold placeOf
  rw [if_neg fun h => h2 h.1]
theorem Tl {R : List Rw} {p : Pa} (hl : R.length < 100000) (hL : ∀ x ∈ R, x.L.length < 1000000) (hn : (R.map (·.L)).Nodup) :
  ∃ w, loop (A8 R p) ((0 : Int), false, (0 : Int)) = some w ∧ ((∃ x ∈ R, x.L = p ∧ w = (x.At, true)) ∨ (p ∉ R.map (·.L) ∧ w = (0, false))) := by
 refine (W.list (l := R) (enc := fun (s : Int × Bool) i => (s.1, s.2, (i : Int))) (P := fun s i => (∃ x ∈ R.take i, x.L = p ∧ s = (x.At, true)) ∨ (p ∉ (R.take i).map (·.L) ∧ s = (0, false))) (Q := fun w => (∃ x ∈ R, x.L = p ∧ w = (x.At, true)) ∨ (p ∉ R.map (·.L) ∧ w = (0, false))) ?_ ?_ (0, false) (.inr ⟨by simp, rfl⟩))
 ·rintro ⟨a, b⟩ h
  rw [A8, AQ, if_neg (by omega)]
  rw [List.take_length] at h
  exact W.ret h
 ·rintro ⟨a, b⟩ i hi h
  have hx := List.getElem_mem hi
  rw [A8, AQ, if_pos (by omega), BO hi, Option.bind_some, LD _ _ (hL _ hx), Option.bind_some]
  have et : R.take (i + 1) = R.take i ++ [R[i]] := B0 (List.getElem?_eq_getElem hi)
  by_cases he : R[i].L = p
  ·rw [beq_iff_eq.2 he, BE, Option.bind_some]
   dsimp only
   rw [D5 (by omega)]
   exact W.ret ⟨_, rfl, .inl ⟨R[i], by rw [et]; exact List.mem_append.2 (.inr (List.mem_singleton.2 rfl)), he, rfl⟩⟩
  ·rw [beq_eq_false_iff_ne.2 he, Ay, Option.bind_some]
   dsimp only
   rw [D5 (by omega)]
   refine W.ret ⟨(a, b), rfl, ?_⟩
   rw [et]
   rcases h with ⟨x, h1, h2⟩ | ⟨h1, h2⟩
   ·exact .inl ⟨x, List.mem_append.2 (.inl h1), h2⟩
   ·refine .inr ⟨?_, h2⟩
    rw [List.map_append, List.mem_append]
    rintro (h3 | h3)
    ·exact h1 h3
    ·simp at h3; exact he h3.symm
theorem PT {l : List Mb} (hs : Small l) {A : List Nd} {Ps : List Pa} (h : JC l l.length A Ps) {R : List Rw} (hr : Jl (paths l) l.length R) (hl : R.length < 100000) (hL : ∀ x ∈ R, x.L.length < 1000000) (p : Pa) :
  loop (A8 R p) ((0 : Int), false, (0 : Int)) = some (placeOf A Ps p) := by
 have hn : (R.map (·.L)).Nodup := hr.Ty.imp fun q => Nj q
 obtain ⟨w, h1, h2⟩ := Tl (p := p) hl hL hn
 rw [h1]
 congr 1
 have hmem : p ∈ R.map (·.L) ↔ p ∈ Ps ∧ p ≠ [] := by
  rw [hr.keys, h.all]
  constructor
  ·exact fun h => ⟨.inr h.2, h.1⟩
  ·exact fun h => ⟨h.2, h.1.resolve_left h.2⟩
 unfold placeOf
 rcases h2 with ⟨x, hx, hxp, rfl⟩ | ⟨h2, rfl⟩
 ·have hp : p ∈ Ps ∧ p ≠ [] := hmem.1 (List.mem_map.2 ⟨x, hx, hxp⟩)
  rw [if_pos hp]
  obtain ⟨k, hk⟩ := List.mem_iff_getElem?.1 hp.1
  obtain ⟨z, hz⟩ := h.ai.node hk
  rw [R4 h.ai.RQ hk, hr.Gx x hx, hxp]
  have hv := (h.Gx k z p hz hk).1
  rw [if_neg hp.2] at hv
  unfold MA
  rw [hz, ← hv]; rfl
 ·rw [if_neg fun hp => h2 (hmem.2 hp)]
end Go.Av.L
