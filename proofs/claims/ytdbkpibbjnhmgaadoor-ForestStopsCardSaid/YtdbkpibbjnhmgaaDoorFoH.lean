/-
 A part.
-/
import Derived.Test.YtdbkpibbjnhmgaaDoorFoG
namespace Go.Av.L
open Go.Av Go.Lib
set_option linter.unusedVariables false
set_option linter.unusedSimpArgs false
set_option maxRecDepth 100000 in
theorem MI : CK = some true := by kernel_rfl
theorem SZ (l : List Mb) : Bz l = some true ∨ (Bz l = some false ∧ Small l) := by
 unfold Bz
 by_cases h : l.length ≤ 12
 ·rw [AU, if_neg (by omega)]
  have key : ∀ (n i : Nat), i + n = l.length → (∀ m ∈ l.take i, m.Name.length ≤ 100 ∧ m.Data.length ≤ 2000) →
    loop (As l) (i : Int) = some (.inr true) ∨ (loop (As l) (i : Int) = some (.inl ()) ∧ ∀ m ∈ l, m.Name.length ≤ 100 ∧ m.Data.length ≤ 2000) := by
   intro n
   induction n with
   | zero =>
    intro i hi ht
    refine .inr ⟨Bl ?_, fun m hm => ht m (by rw [List.take_of_length_le (by omega)]; exact hm)⟩
    rw [As, AU, if_neg (by omega)]
   | succ n ih =>
    intro i hi ht
    have hlt : i < l.length := by omega
    cases hc : (decide ((l[i].Name.length : Int) > 100) || decide ((l[i].Data.length : Int) > 2000)) with
    | true =>
     refine .inl (Bl ?_)
     rw [As, AU, if_pos (by omega), CD hlt, Option.bind_some, hc, Bj]
    | false =>
     have st : As l (i : Int) = some (.inl ((i + 1 : Nat) : Int)) := by
      rw [As, AU, if_pos (by omega), CD hlt, Option.bind_some, hc, BK, E6 (by omega)]
     rw [Dd st]
     refine ih (i + 1) (by omega) fun m hm => ?_
     rw [CL (List.getElem?_eq_getElem hlt), List.mem_append] at hm
     rcases hm with hm | hm
     ·exact ht m hm
     ·rw [List.mem_singleton.1 hm]
      simp only [Bool.or_eq_false_iff, decide_eq_false_iff_not] at hc
      omega
  rcases key l.length 0 (by omega) (fun m hm => by simp at hm) with h1 | ⟨h1, h2⟩
  ·rw [show ((0 : Nat) : Int) = 0 from rfl] at h1
   rw [h1]; exact .inl rfl
  ·rw [show ((0 : Nat) : Int) = 0 from rfl] at h1
   rw [h1]; exact .inr ⟨rfl, h, fun m hm => (h2 m hm).1, fun m hm => (h2 m hm).2⟩
 ·rw [AU, if_pos (by omega)]
  exact .inl rfl
theorem J8.WA {l : List Mb} (hs : Small l) {A : List Nd} {Ps : List Pa} (h : J8 l l.length A Ps) : VG A Ps := by
 have h1 := h.OS
 have h2 := hs.OS
 refine ⟨by omega, fun p hp => ?_⟩
 rcases (h.all p).1 hp with rfl | ⟨j, hj, q, hq, m, rfl⟩
 ·simp [Hb]
 ·obtain ⟨mb, hm, rfl⟩ := List.mem_map.1 (List.mem_of_getElem? hq)
  have a1 := GZ (JB mb.Name) m
  have a2 := Hn mb.Name
  have a3 := hs.names mb hm
  omega
def La (A : List Nd) (k : Nat) : Int := ((A[k]?).map (·.at_)).getD (-1)
abbrev QS (A : List Nd) : List Nat := RS A LN 0
theorem Mv {l : List Mb} (hs : Small l) {A : List Nd} {Ps : List Pa} (h : J8 l l.length A Ps) {k : Nat} (hk : k ∈ QS A) : ∃ x, A[k]? = some x ∧ Ps[k]? = some (M9 Ps k) ∧ M9 Ps k ≠ [] ∧ x.at_ = La A k ∧ La A k = DZ (paths l) l.length (M9 Ps k) := by
 have hsm := h.WA hs
 obtain ⟨d, hd, h2⟩ := (Hq h.ai LN 0 [] h.ai.root (MP (by have := hsm.OS; omega)) k).1 hk
 rw [List.nil_append] at h2
 obtain ⟨x, hx⟩ := h.ai.node h2
 have e := IQ h2
 have hv := (h.IT k x d hx h2).1
 rw [if_neg hd] at hv
 have ea : x.at_ = La A k := by unfold La; rw [hx]; rfl
 exact ⟨x, hx, by rw [e]; exact h2, by rw [e]; exact hd, ea, by rw [e, ← ea, hv]⟩
theorem Sf {l : List Mb} (hs : Small l) {A : List Nd} {Ps : List Pa} (h : J8 l l.length A Ps) {R : List Rw} (hr : MS (paths l) l.length R) : R = (QS A).map fun k => (⟨M9 Ps k, La A k⟩ : Rw) := by
 have hsm := h.WA hs
 have hb : A.length - 0 ≤ LN := MP (by have := hsm.OS; omega)
 have e1 : R.map (·.L) = (QS A).map (M9 Ps) := by
  refine Ql hr.UU (PC h.ai LN 0 [] h.ai.root hb) fun q => ?_
  rw [hr.keys]
  constructor
  ·rintro ⟨h1, h2⟩
   obtain ⟨k, hk⟩ := List.mem_iff_getElem?.1 ((h.all q).2 (.inr h2))
   exact List.mem_map.2 ⟨k, (Hq h.ai LN 0 [] h.ai.root hb k).2 ⟨q, h1, hk⟩, IQ hk⟩
  ·intro hq
   obtain ⟨k, hk, rfl⟩ := List.mem_map.1 hq
   obtain ⟨x, hx, h2, h3, _⟩ := Mv hs h hk
   refine ⟨h3, ?_⟩
   rcases (h.all _).1 (List.mem_of_getElem? h2) with h4 | h4
   ·exact absurd h4 h3
   ·exact h4
 have e2 : R = (R.map (·.L)).map fun q => (⟨q, DZ (paths l) l.length q⟩ : Rw) := by
  rw [List.map_map]
  conv => lhs; rw [← List.map_id R]
  refine List.map_congr_left fun x hx => ?_
  show x = ⟨x.L, DZ (paths l) l.length x.L⟩
  rw [← hr.IT x hx]
 rw [e2, e1, List.map_map]
 refine List.map_congr_left fun k hk => ?_
 obtain ⟨x, hx, h2, h3, h4, h5⟩ := Mv hs h hk
 show (⟨M9 Ps k, DZ (paths l) l.length (M9 Ps k)⟩ : Rw) = _
 rw [h5]
theorem O0 {l : List Mb} (hs : Small l) {A : List Nd} {Ps : List Pa} (h : J8 l l.length A Ps) {f : A9} (hf : f.Bv = 0) {SY RY : Type} {Y : SY → Bu × Nat → Option (SY ⊕ RY)} {y y' : SY ⊕ RY} {b : Bool} (hy : feed Y ((QS A).map (UJ Ps)) y = some (b, y')) :
  Ar Y y f A = some y' := by
 unfold Ar
 have hsm := h.WA hs
 have := Lo h.ai hsm (Y := Y) LN 0 [] h.ai.root (MP (by have := hsm.OS; omega)) y y' b hy
 rw [hf]
 have e : DR ([] : Pa) = [] := rfl
 rw [e] at this
 show (Ad 0 [] Y y A).bind _ = _
 unfold Ad
 rw [this]; rfl
end Go.Av.L
