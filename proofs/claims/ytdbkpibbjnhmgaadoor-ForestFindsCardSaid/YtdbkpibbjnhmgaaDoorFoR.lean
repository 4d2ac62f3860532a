/-
  Several texts in one.
-/
import Derived.Test.YtdbkpibbjnhmgaaDoorFoH
/-
 A part.
-/
section
namespace Go.Av.L
open Go.Av Go.Lib
set_option linter.unusedVariables false
set_option linter.unusedSimpArgs false
theorem find_eq {l : List Mb} (hs : Small l) {A : List Nd} {Ps : List Pa} (h : JC l l.length A Ps) {f : Aj} (hf : f.Bb = 0) {s : B9} (hl : s.length ≤ 200) :
  (∃ k, BX f s A = some (some k) ∧ Ps[k]? = some (Dd s)) ∨ (BX f s A = some none ∧ Dd s ∉ Ps) := by
 have hp := IU s
 have key : ∀ (n i k : Nat), i + n = (Dd s).length → Ps[k]? = some ((Dd s).take i) →
   (∃ k', loop (A9 A (Dd s)) (k, (i : Int)) = some (.inl k') ∧ Ps[k']? = some (Dd s)) ∨ (loop (A9 A (Dd s)) (k, (i : Int)) = some (.inr ()) ∧ Dd s ∉ Ps) := by
  intro n
  induction n with
  | zero =>
   intro i k hi hk
   refine .inl ⟨k, BY ?_, ?_⟩
   ·rw [A9, AQ, if_neg (by omega)]
   ·rw [hk, List.take_of_length_le (by omega)]
  | succ n ih =>
   intro i k hi hk
   have hlt : i < (Dd s).length := by omega
   obtain ⟨x, hx⟩ := h.ai.node hk
   have et : (Dd s).take (i + 1) = (Dd s).take i ++ [(Dd s)[i]] := B0 (List.getElem?_eq_getElem hlt)
   cases hm : Cb x.AP (Dd s)[i] with
   | some k' =>
    have st : A9 A (Dd s) (k, (i : Int)) = some (.inl (k', ((i + 1 : Nat) : Int))) := by
     rw [A9, AQ, if_pos (by omega), BO hlt, Option.bind_some, hx, Option.bind_some, hm]
     simp only [Kq]
     rw [D5 (by omega)]
    rw [CR st]
    exact ih (i + 1) k' (by omega) (by rw [et]; exact (h.ai.Pu k x _ hx hk _ k').1 hm)
   | none =>
    refine .inr ⟨BY ?_, fun hin => ?_⟩
    ·rw [A9, AQ, if_pos (by omega), BO hlt, Option.bind_some, hx, Option.bind_some, hm]
     rfl
    ·obtain ⟨k2, hk2⟩ := List.mem_iff_getElem?.1 hin
     have e : Dd s = ((Dd s).take i ++ [(Dd s)[i]]) ++ (Dd s).drop (i + 1) := by rw [← et, List.take_append_drop]
     rw [e] at hk2
     obtain ⟨k3, hk3⟩ := h.ai.front _ hk2
     have := (h.ai.Pu k x _ hx hk _ k3).2 hk3
     rw [hm] at this
     cases this
 unfold BX
 rw [parts_eq (by omega), Option.bind_some, hf]
 rcases key (Dd s).length 0 0 (by omega) (by rw [List.take_zero]; exact h.ai.root) with ⟨k, h1, h2⟩ | ⟨h1, h2⟩
 ·refine .inl ⟨k, ?_, h2⟩
  rw [show ((0 : Nat) : Int) = 0 from rfl] at h1
  rw [h1]; rfl
 ·refine .inr ⟨?_, h2⟩
  rw [show ((0 : Nat) : Int) = 0 from rfl] at h1
  rw [h1]; rfl
end Go.Av.L
end
/-
 A part.
-/
section
namespace Go.Av.L
open Go.Av Go.Lib
set_option linter.unusedVariables false
set_option linter.unusedSimpArgs false
theorem RI {l : List Mb} (hs : Small l) {R : List Rw} (hr : Jl (paths l) l.length R) : (∀ x ∈ R, (∀ c ∈ x.L, NV c) ∧ x.L.length < 900000000 ∧ (pj x.L).length < 900000000) ∧ R.length < 100000 := by
 refine ⟨fun x hx => ?_, by have := hr.len; have := hs.Mh; omega⟩
 obtain ⟨_, j, hj, q, hq, m, hm⟩ := (hr.keys x.L).1 (List.mem_map.2 ⟨x, hx, rfl⟩)
 obtain ⟨mb, hmb, rfl⟩ := List.mem_map.1 (List.mem_of_getElem? hq)
 have a1 := HI (Dd mb.Name) m
 have a2 := Fl mb.Name
 have a3 := hs.names mb hmb
 have a4 := hs.Dd _ (List.mem_of_getElem? hq)
 rw [hm]
 refine ⟨fun c hc => K2 (List.mem_of_mem_take hc), by rw [List.length_take]; omega, by omega⟩
end Go.Av.L
end
