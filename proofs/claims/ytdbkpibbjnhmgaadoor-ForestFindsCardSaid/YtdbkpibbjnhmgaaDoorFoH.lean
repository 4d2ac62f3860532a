/-
 A part.
-/
import Derived.Test.YtdbkpibbjnhmgaaDoorFoG
namespace Go.Av.L
open Go.Av Go.Lib
set_option linter.unusedVariables false
set_option linter.unusedSimpArgs false
set_option maxRecDepth 100000 in
theorem Ns : Cg = some true := by kernel_rfl
theorem Tn (l : List Mb) : CM l = some true ∨ (CM l = some false ∧ Small l) := by
 unfold CM
 by_cases h : l.length ≤ 12
 ·rw [AQ, if_neg (by omega)]
  have key : ∀ (n i : Nat), i + n = l.length → (∀ m ∈ l.take i, m.Name.length ≤ 100 ∧ m.Data.length ≤ 2000) →
    loop (BJ l) (i : Int) = some (.inr true) ∨ (loop (BJ l) (i : Int) = some (.inl ()) ∧ ∀ m ∈ l, m.Name.length ≤ 100 ∧ m.Data.length ≤ 2000) := by
   intro n
   induction n with
   | zero =>
    intro i hi ht
    refine .inr ⟨BY ?_, fun m hm => ht m (by rw [List.take_of_length_le (by omega)]; exact hm)⟩
    rw [BJ, AQ, if_neg (by omega)]
   | succ n ih =>
    intro i hi ht
    have hlt : i < l.length := by omega
    cases hc : (decide ((l[i].Name.length : Int) > 100) || decide ((l[i].Data.length : Int) > 2000)) with
    | true =>
     refine .inl (BY ?_)
     rw [BJ, AQ, if_pos (by omega), BO hlt, Option.bind_some, hc, BE]
    | false =>
     have st : BJ l (i : Int) = some (.inl ((i + 1 : Nat) : Int)) := by
      rw [BJ, AQ, if_pos (by omega), BO hlt, Option.bind_some, hc, Ay, D5 (by omega)]
     rw [CR st]
     refine ih (i + 1) (by omega) fun m hm => ?_
     rw [B0 (List.getElem?_eq_getElem hlt), List.mem_append] at hm
     rcases hm with hm | hm
     ·exact ht m hm
     ·rw [List.mem_singleton.1 hm]
      simp only [Bool.or_eq_false_iff, decide_eq_false_iff_not] at hc
      omega
  rcases key l.length 0 (by omega) (fun m hm => by simp at hm) with h1 | ⟨h1, h2⟩
  ·rw [show ((0 : Nat) : Int) = 0 from rfl] at h1
   rw [h1]; exact .inl rfl
  ·rw [show ((0 : Nat) : Int) = 0 from rfl] at h1
   rw [h1]; exact .inr ⟨rfl, h, fun m hm => (h2 m hm).1, fun m hm => (h2 m hm).2⟩
 ·rw [AQ, if_pos (by omega)]
  exact .inl rfl
theorem JC.WA {l : List Mb} (hs : Small l) {A : List Nd} {Ps : List Pa} (h : JC l l.length A Ps) : Vi A Ps := by
 have h1 := h.Mh
 have h2 := hs.Mh
 refine ⟨by omega, fun p hp => ?_⟩
 rcases (h.all p).1 hp with rfl | ⟨j, hj, q, hq, m, rfl⟩
 ·simp [HY]
 ·obtain ⟨mb, hm, rfl⟩ := List.mem_map.1 (List.mem_of_getElem? hq)
  have a1 := HI (Dd mb.Name) m
  have a2 := Fl mb.Name
  have a3 := hs.names mb hm
  omega
def MA (A : List Nd) (k : Nat) : Int := ((A[k]?).map (·.at_)).getD (-1)
abbrev Pc (A : List Nd) : List Nat := MH A Fb 0
theorem NT {l : List Mb} (hs : Small l) {A : List Nd} {Ps : List Pa} (h : JC l l.length A Ps) {k : Nat} (hk : k ∈ Pc A) : ∃ x, A[k]? = some x ∧ Ps[k]? = some (PQ Ps k) ∧ PQ Ps k ≠ [] ∧ x.at_ = MA A k ∧ MA A k = DL (paths l) l.length (PQ Ps k) := by
 have hsm := h.WA hs
 obtain ⟨d, hd, h2⟩ := (E3 h.ai Fb 0 [] h.ai.root (NQ (by have := hsm.Mh; omega)) k).1 hk
 rw [List.nil_append] at h2
 obtain ⟨x, hx⟩ := h.ai.node h2
 have e := HM h2
 have hv := (h.Gx k x d hx h2).1
 rw [if_neg hd] at hv
 have ea : x.at_ = MA A k := by unfold MA; rw [hx]; rfl
 exact ⟨x, hx, by rw [e]; exact h2, by rw [e]; exact hd, ea, by rw [e, ← ea, hv]⟩
theorem S9 {l : List Mb} (hs : Small l) {A : List Nd} {Ps : List Pa} (h : JC l l.length A Ps) {R : List Rw} (hr : Jl (paths l) l.length R) : R = (Pc A).map fun k => (⟨PQ Ps k, MA A k⟩ : Rw) := by
 have hsm := h.WA hs
 have hb : A.length - 0 ≤ Fb := NQ (by have := hsm.Mh; omega)
 have e1 : R.map (·.L) = (Pc A).map (PQ Ps) := by
  refine N2 hr.Ty (NI h.ai Fb 0 [] h.ai.root hb) fun q => ?_
  rw [hr.keys]
  constructor
  ·rintro ⟨h1, h2⟩
   obtain ⟨k, hk⟩ := List.mem_iff_getElem?.1 ((h.all q).2 (.inr h2))
   exact List.mem_map.2 ⟨k, (E3 h.ai Fb 0 [] h.ai.root hb k).2 ⟨q, h1, hk⟩, HM hk⟩
  ·intro hq
   obtain ⟨k, hk, rfl⟩ := List.mem_map.1 hq
   obtain ⟨x, hx, h2, h3, _⟩ := NT hs h hk
   refine ⟨h3, ?_⟩
   rcases (h.all _).1 (List.mem_of_getElem? h2) with h4 | h4
   ·exact absurd h4 h3
   ·exact h4
 have e2 : R = (R.map (·.L)).map fun q => (⟨q, DL (paths l) l.length q⟩ : Rw) := by
  rw [List.map_map]
  conv => lhs; rw [← List.map_id R]
  refine List.map_congr_left fun x hx => ?_
  show x = ⟨x.L, DL (paths l) l.length x.L⟩
  rw [← hr.Gx x hx]
 rw [e2, e1, List.map_map]
 refine List.map_congr_left fun k hk => ?_
 obtain ⟨x, hx, h2, h3, h4, h5⟩ := NT hs h hk
 show (⟨PQ Ps k, DL (paths l) l.length (PQ Ps k)⟩ : Rw) = _
 rw [h5]
end Go.Av.L
