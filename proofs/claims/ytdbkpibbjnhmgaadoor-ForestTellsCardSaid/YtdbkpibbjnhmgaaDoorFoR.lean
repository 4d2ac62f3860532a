/-
  Several texts in one.
-/
import Derived.Test.YtdbkpibbjnhmgaaDoorFoG
/-
 A part.
-/
section
namespace Go.Av.L
open Go.Av Go.Lib
set_option linter.unusedVariables false
set_option linter.unusedSimpArgs false
set_option maxRecDepth 100000 in
theorem Q2 : CV = some true := by kernel_rfl
theorem UI (l : List Mb) : CG l = some true ∨ (CG l = some false ∧ Small l) := by
 unfold CG
 by_cases h : l.length ≤ 12
 ·rw [AR, if_neg (by omega)]
  have key : ∀ (n i : Nat), i + n = l.length → (∀ m ∈ l.take i, m.Name.length ≤ 100 ∧ m.Data.length ≤ 2000) →
    loop (BJ l) (i : Int) = some (.inr true) ∨ (loop (BJ l) (i : Int) = some (.inl ()) ∧ ∀ m ∈ l, m.Name.length ≤ 100 ∧ m.Data.length ≤ 2000) := by
   intro n
   induction n with
   | zero =>
    intro i hi ht
    refine .inr ⟨Ba ?_, fun m hm => ht m (by rw [List.take_of_length_le (by omega)]; exact hm)⟩
    rw [BJ, AR, if_neg (by omega)]
   | succ n ih =>
    intro i hi ht
    have hlt : i < l.length := by omega
    cases hc : (decide ((l[i].Name.length : Int) > 100) || decide ((l[i].Data.length : Int) > 2000)) with
    | true =>
     refine .inl (Ba ?_)
     rw [BJ, AR, if_pos (by omega), Br hlt, Option.bind_some, hc, BY]
    | false =>
     have st : BJ l (i : Int) = some (.inl ((i + 1 : Nat) : Int)) := by
      rw [BJ, AR, if_pos (by omega), Br hlt, Option.bind_some, hc, A7, Eh (by omega)]
     rw [Cx st]
     refine ih (i + 1) (by omega) fun m hm => ?_
     rw [CH (List.getElem?_eq_getElem hlt), List.mem_append] at hm
     rcases hm with hm | hm
     ·exact ht m hm
     ·rw [List.mem_singleton.1 hm]
      simp only [Bool.or_eq_false_iff, decide_eq_false_iff_not] at hc
      omega
  rcases key l.length 0 (by omega) (fun m hm => by simp at hm) with h1 | ⟨h1, h2⟩
  ·rw [show ((0 : Nat) : Int) = 0 from rfl] at h1
   rw [h1]; exact .inl rfl
  ·rw [show ((0 : Nat) : Int) = 0 from rfl] at h1
   rw [h1]; exact .inr ⟨rfl, h, fun m hm => (h2 m hm).1, fun m hm => (h2 m hm).2⟩
 ·rw [AR, if_pos (by omega)]
  exact .inl rfl
theorem GL.W7 {l : List Mb} (hs : Small l) {A : List Nd} {Ps : List Pa} (h : GL l l.length A Ps) : Wk A Ps := by
 have h1 := h.Ky
 have h2 := hs.Ky
 refine ⟨by omega, fun p hp => ?_⟩
 rcases (h.all p).1 hp with rfl | ⟨j, hj, q, hq, m, rfl⟩
 ·simp [G6]
 ·obtain ⟨mb, hm, rfl⟩ := List.mem_map.1 (List.mem_of_getElem? hq)
  have a1 := Fa (D1 mb.Name) m
  have a2 := El mb.Name
  have a3 := hs.names mb hm
  omega
def H0 (A : List Nd) (k : Nat) : Int := ((A[k]?).map (·.at_)).getD (-1)
abbrev L2 (A : List Nd) : List Nat := SX A KR 0
theorem LD {l : List Mb} (hs : Small l) {A : List Nd} {Ps : List Pa} (h : GL l l.length A Ps) {k : Nat} (hk : k ∈ L2 A) : ∃ x, A[k]? = some x ∧ Ps[k]? = some (Ms Ps k) ∧ Ms Ps k ≠ [] ∧ x.at_ = H0 A k ∧ H0 A k = C2 (paths l) l.length (Ms Ps k) := by
 have hsm := h.W7 hs
 obtain ⟨d, hd, h2⟩ := (Gz h.ai KR 0 [] h.ai.root (K0 (by have := hsm.Ky; omega)) k).1 hk
 rw [List.nil_append] at h2
 obtain ⟨x, hx⟩ := h.ai.node h2
 have e := Ix h2
 have hv := (h.IS k x d hx h2).1
 rw [if_neg hd] at hv
 have ea : x.at_ = H0 A k := by unfold H0; rw [hx]; rfl
 exact ⟨x, hx, by rw [e]; exact h2, by rw [e]; exact hd, ea, by rw [e, ← ea, hv]⟩
theorem Q8 {l : List Mb} (hs : Small l) {A : List Nd} {Ps : List Pa} (h : GL l l.length A Ps) {R : List Rw} (hr : Iu (paths l) l.length R) : R = (L2 A).map fun k => (⟨Ms Ps k, H0 A k⟩ : Rw) := by
 have hsm := h.W7 hs
 have hb : A.length - 0 ≤ KR := K0 (by have := hsm.Ky; omega)
 have e1 : R.map (·.L) = (L2 A).map (Ms Ps) := by
  refine Tb hr.V1 (Nu h.ai KR 0 [] h.ai.root hb) fun q => ?_
  rw [hr.keys]
  constructor
  ·rintro ⟨h1, h2⟩
   obtain ⟨k, hk⟩ := List.mem_iff_getElem?.1 ((h.all q).2 (.inr h2))
   exact List.mem_map.2 ⟨k, (Gz h.ai KR 0 [] h.ai.root hb k).2 ⟨q, h1, hk⟩, Ix hk⟩
  ·intro hq
   obtain ⟨k, hk, rfl⟩ := List.mem_map.1 hq
   obtain ⟨x, hx, h2, h3, _⟩ := LD hs h hk
   refine ⟨h3, ?_⟩
   rcases (h.all _).1 (List.mem_of_getElem? h2) with h4 | h4
   ·exact absurd h4 h3
   ·exact h4
 have e2 : R = (R.map (·.L)).map fun q => (⟨q, C2 (paths l) l.length q⟩ : Rw) := by
  rw [List.map_map]
  conv => lhs; rw [← List.map_id R]
  refine List.map_congr_left fun x hx => ?_
  show x = ⟨x.L, C2 (paths l) l.length x.L⟩
  rw [← hr.IS x hx]
 rw [e2, e1, List.map_map]
 refine List.map_congr_left fun k hk => ?_
 obtain ⟨x, hx, h2, h3, h4, h5⟩ := LD hs h hk
 show (⟨Ms Ps k, C2 (paths l) l.length (Ms Ps k)⟩ : Rw) = _
 rw [h5]
theorem L6 {l : List Mb} (hs : Small l) {A : List Nd} {Ps : List Pa} (h : GL l l.length A Ps) {f : AV} (hf : f.Au = 0) {SY RY : Type} {Y : SY → Bw × Nat → Option (SY ⊕ RY)} {y y' : SY ⊕ RY} {b : Bool} (hy : feed Y ((L2 A).map (Td Ps)) y = some (b, y')) :
  BG Y y f A = some y' := by
 unfold BG
 have hsm := h.W7 hs
 have := My h.ai hsm (Y := Y) KR 0 [] h.ai.root (K0 (by have := hsm.Ky; omega)) y y' b hy
 rw [hf]
 have e : CT ([] : Pa) = [] := rfl
 rw [e] at this
 show (Ah 0 [] Y y A).bind _ = _
 unfold Ah
 rw [this]; rfl
end Go.Av.L
end
/-
 A part.
-/
section
namespace Go.Av.L
open Go.Av Go.Lib
set_option linter.unusedVariables false
set_option linter.unusedSimpArgs false
theorem find_eq {l : List Mb} (hs : Small l) {A : List Nd} {Ps : List Pa} (h : GL l l.length A Ps) {f : AV} (hf : f.Au = 0) {s : Bw} (hl : s.length ≤ 200) :
  (∃ k, B7 f s A = some (some k) ∧ Ps[k]? = some (D1 s)) ∨ (B7 f s A = some none ∧ D1 s ∉ Ps) := by
 have hp := LC s
 have key : ∀ (n i k : Nat), i + n = (D1 s).length → Ps[k]? = some ((D1 s).take i) →
   (∃ k', loop (BA A (D1 s)) (k, (i : Int)) = some (.inl k') ∧ Ps[k']? = some (D1 s)) ∨ (loop (BA A (D1 s)) (k, (i : Int)) = some (.inr ()) ∧ D1 s ∉ Ps) := by
  intro n
  induction n with
  | zero =>
   intro i k hi hk
   refine .inl ⟨k, Ba ?_, ?_⟩
   ·rw [BA, AR, if_neg (by omega)]
   ·rw [hk, List.take_of_length_le (by omega)]
  | succ n ih =>
   intro i k hi hk
   have hlt : i < (D1 s).length := by omega
   obtain ⟨x, hx⟩ := h.ai.node hk
   have et : (D1 s).take (i + 1) = (D1 s).take i ++ [(D1 s)[i]] := CH (List.getElem?_eq_getElem hlt)
   cases hm : CY x.AP (D1 s)[i] with
   | some k' =>
    have st : BA A (D1 s) (k, (i : Int)) = some (.inl (k', ((i + 1 : Nat) : Int))) := by
     rw [BA, AR, if_pos (by omega), Br hlt, Option.bind_some, hx, Option.bind_some, hm]
     simp only [Ks]
     rw [Eh (by omega)]
    rw [Cx st]
    exact ih (i + 1) k' (by omega) (by rw [et]; exact (h.ai.Ic k x _ hx hk _ k').1 hm)
   | none =>
    refine .inr ⟨Ba ?_, fun hin => ?_⟩
    ·rw [BA, AR, if_pos (by omega), Br hlt, Option.bind_some, hx, Option.bind_some, hm]
     rfl
    ·obtain ⟨k2, hk2⟩ := List.mem_iff_getElem?.1 hin
     have e : D1 s = ((D1 s).take i ++ [(D1 s)[i]]) ++ (D1 s).drop (i + 1) := by rw [← et, List.take_append_drop]
     rw [e] at hk2
     obtain ⟨k3, hk3⟩ := h.ai.front _ hk2
     have := (h.ai.Ic k x _ hx hk _ k3).2 hk3
     rw [hm] at this
     cases this
 unfold B7
 rw [parts_eq (by omega), Option.bind_some, hf]
 rcases key (D1 s).length 0 0 (by omega) (by rw [List.take_zero]; exact h.ai.root) with ⟨k, h1, h2⟩ | ⟨h1, h2⟩
 ·refine .inl ⟨k, ?_, h2⟩
  rw [show ((0 : Nat) : Int) = 0 from rfl] at h1
  rw [h1]; rfl
 ·refine .inr ⟨?_, h2⟩
  rw [show ((0 : Nat) : Int) = 0 from rfl] at h1
  rw [h1]; rfl
end Go.Av.L
end
/-
 A part.
-/
section
namespace Go.Av.L
open Go.Av Go.Lib
set_option linter.unusedVariables false
set_option linter.unusedSimpArgs false
theorem RE {l : List Mb} (hs : Small l) {R : List Rw} (hr : Iu (paths l) l.length R) : (∀ x ∈ R, (∀ c ∈ x.L, Nz c) ∧ x.L.length < 900000000 ∧ (pj x.L).length < 900000000) ∧ R.length < 100000 := by
 refine ⟨fun x hx => ?_, by have := hr.len; have := hs.Ky; omega⟩
 obtain ⟨_, j, hj, q, hq, m, hm⟩ := (hr.keys x.L).1 (List.mem_map.2 ⟨x, hx, rfl⟩)
 obtain ⟨mb, hmb, rfl⟩ := List.mem_map.1 (List.mem_of_getElem? hq)
 have a1 := Fa (D1 mb.Name) m
 have a2 := El mb.Name
 have a3 := hs.names mb hmb
 have a4 := hs.D1 _ (List.mem_of_getElem? hq)
 rw [hm]
 refine ⟨fun c hc => JV (List.mem_of_mem_take hc), by rw [List.length_take]; omega, by omega⟩
end Go.Av.L
end
