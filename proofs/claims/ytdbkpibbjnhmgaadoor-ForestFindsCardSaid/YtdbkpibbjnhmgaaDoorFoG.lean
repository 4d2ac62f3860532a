/-
 A part.
-/
import Derived.Test.YtdbkpibbjnhmgaaDoorFoF
namespace Go.Av.L
open Go.Av Go.Lib
set_option linter.unusedVariables false
set_option linter.unusedSimpArgs false
def MH (A : List Nd) : Nat → Nat → List Nat
 | 0, _ => []
 | n + 1, j => match A[j]? with
  | none => []
  | some x => (Az (x.AP.map Prod.fst)).flatMap fun c => match Cb x.AP c with
   | none => []
   | some k => k :: MH A n k
abbrev PQ (Ps : List Pa) (k : Nat) : Pa := Ps.getD k []
theorem HM {Ps : List Pa} {k : Nat} {p : Pa} (h : Ps[k]? = some p) : PQ Ps k = p := by
 unfold PQ
 rw [List.getD_eq_getElem?_getD, h]; rfl
theorem Fs {m : List (B9 × Nat)} {c : B9} : c ∈ m.map Prod.fst ↔ ∃ k, Cb m c = some k := by
 induction m with
 | nil => simp [Cb]
 | cons p m ih =>
  obtain ⟨c', k'⟩ := p
  unfold Cb
  by_cases h : c = c'
  ·rw [if_pos h]; simp [h]
  ·rw [if_neg h, List.map_cons, List.mem_cons, ih]; simp [h]
theorem Fp {l : List B9} {c : B9} : c ∈ Az l ↔ c ∈ l := (EM l).mem_iff
theorem Jv {l : List B9} (h : l.Nodup) : (Az l).Pairwise fun a b : B9 => a < b := by
 have h1 := HP l
 have h2 : (Az l).Nodup := ((EM l).nodup_iff).2 h
 exact (h1.and h2).imp fun {a b} q => by
  by_cases hlt : a < b
  ·exact hlt
  ·exact absurd (List.le_antisymm q.1 (List.not_lt.1 hlt)) q.2
theorem AI.gt {A : List Nd} {Ps : List Pa} (h : AI A Ps) {j k : Nat} {p : Pa} {c : B9} (hj : Ps[j]? = some p) (hk : Ps[k]? = some (p ++ [c])) : j < k := by
 obtain ⟨j', h1, h2⟩ := h.par k p c hk
 rw [El h.RQ hj h2]; exact h1
theorem AI.front {A : List Nd} {Ps : List Pa} (h : AI A Ps) {k : Nat} {p : Pa} : ∀ (d : Pa), Ps[k]? = some (p ++ d) → ∃ j : Nat, Ps[j]? = some p := by
 intro d
 induction hn : d.length generalizing d k with
 | zero =>
  intro hk
  have : d = [] := List.eq_nil_of_length_eq_zero hn
  subst this
  exact ⟨k, by rw [List.append_nil] at hk; exact hk⟩
 | succ n ih =>
  intro hk
  have hne : d ≠ [] := by rintro rfl; simp at hn
  have e : d = d.dropLast ++ [d.getLast hne] := (List.dropLast_concat_getLast hne).symm
  rw [e, ← List.append_assoc] at hk
  obtain ⟨j, _, h2⟩ := h.par k _ _ hk
  exact ih d.dropLast (by rw [List.length_dropLast]; omega) h2
theorem E3 {A : List Nd} {Ps : List Pa} (h : AI A Ps) : ∀ (m j : Nat) (P : Pa), Ps[j]? = some P → A.length - j ≤ m → ∀ k, k ∈ MH A m j ↔ ∃ d, d ≠ [] ∧ Ps[k]? = some (P ++ d)
 | 0, j, P, hj, hm, k => by
  have := (List.getElem?_eq_some_iff.1 hj).1
  rw [← h.len] at this
  omega
 | m + 1, j, P, hj, hm, k => by
  obtain ⟨x, hx⟩ := h.node hj
  unfold MH
  rw [hx]
  simp only [List.mem_flatMap, Fp]
  constructor
  ·rintro ⟨c, hc, hk⟩
   obtain ⟨k', hk'⟩ := Fs.1 hc
   rw [hk'] at hk
   have hP := (h.Pu j x P hx hj c k').1 hk'
   have hgt := h.gt hj hP
   rcases List.mem_cons.1 hk with rfl | hk
   ·exact ⟨[c], by simp, hP⟩
   ·obtain ⟨d, hd, h2⟩ := (E3 h m k' _ hP (by omega) k).1 hk
    exact ⟨[c] ++ d, by simp, by rw [← List.append_assoc]; exact h2⟩
  ·rintro ⟨d, hd, hk⟩
   obtain ⟨c, d', rfl⟩ : ∃ c d', d = c :: d' := by
    cases d with
    | nil => exact absurd rfl hd
    | cons c d' => exact ⟨c, d', rfl⟩
   have e : P ++ c :: d' = (P ++ [c]) ++ d' := by simp
   rw [e] at hk
   obtain ⟨k', hP⟩ := h.front d' hk
   have hk' := (h.Pu j x P hx hj c k').2 hP
   refine ⟨c, Fs.2 ⟨k', hk'⟩, ?_⟩
   rw [hk']
   have hgt := h.gt hj hP
   cases d' with
   | nil =>
    rw [List.append_nil] at hk
    rw [El h.RQ hk hP]
    exact List.mem_cons_self ..
   | cons a b => exact List.mem_cons_of_mem _ ((E3 h m k' _ hP (by omega) k).2 ⟨a :: b, by simp, hk⟩)
theorem NI {A : List Nd} {Ps : List Pa} (h : AI A Ps) : ∀ (m j : Nat) (P : Pa), Ps[j]? = some P → A.length - j ≤ m → ((MH A m j).map (PQ Ps)).Pairwise Hh
 | 0, j, P, hj, hm => by
  have := (List.getElem?_eq_some_iff.1 hj).1
  rw [← h.len] at this
  omega
 | m + 1, j, P, hj, hm => by
  obtain ⟨x, hx⟩ := h.node hj
  unfold MH
  rw [hx]
  simp only [List.map_flatMap]
  have mem : ∀ c ∈ Az (x.AP.map Prod.fst), ∃ k', Cb x.AP c = some k' ∧ Ps[k']? = some (P ++ [c]) ∧ j < k' := fun c hc => by
   obtain ⟨k', hk'⟩ := Fs.1 (Fp.1 hc)
   have hP := (h.Pu j x P hx hj c k').1 hk'
   exact ⟨k', hk', hP, h.gt hj hP⟩
  have form : ∀ c ∈ Az (x.AP.map Prod.fst), ∀ q ∈ (match Cb x.AP c with | none => [] | some k => k :: MH A m k).map (PQ Ps), ∃ d, q = P ++ c :: d := fun c hc q hq => by
   obtain ⟨k', hk', hP, hgt⟩ := mem c hc
   rw [hk'] at hq
   obtain ⟨k, hk, rfl⟩ := List.mem_map.1 hq
   rcases List.mem_cons.1 hk with rfl | hk
   ·exact ⟨[], HM hP⟩
   ·obtain ⟨d, _, h2⟩ := (E3 h m k' _ hP (by omega) k).1 hk
    exact ⟨d, by rw [HM h2]; simp⟩
  rw [List.pairwise_flatMap]
  refine ⟨fun c hc => ?_, ?_⟩
  ·obtain ⟨k', hk', hP, hgt⟩ := mem c hc
   rw [hk']
   simp only [List.map_cons]
   rw [List.pairwise_cons]
   refine ⟨fun q hq => ?_, NI h m k' _ hP (by omega)⟩
   obtain ⟨k, hk, rfl⟩ := List.mem_map.1 hq
   obtain ⟨d, hd, h2⟩ := (E3 h m k' _ hP (by omega) k).1 hk
   rw [HM hP, HM h2]
   exact Tb _ hd
  ·have hx' := h.keys x (List.mem_of_getElem? hx)
   refine (List.pairwise_iff_getElem.2 fun i i' hi hi' hlt => ?_)
   intro q hq q' hq'
   have hs := List.pairwise_iff_getElem.1 (Jv hx') i i' hi hi' hlt
   obtain ⟨d, rfl⟩ := form _ (List.getElem_mem hi) q hq
   obtain ⟨d', rfl⟩ := form _ (List.getElem_mem hi') q' hq'
   rw [Ib]
   exact .inl hs
def Fe (P : Pa) : B9 := if P = [] then [] else pj P ++ [47]
theorem Jp (P : Pa) (c : B9) : Fe P ++ c = pj (P ++ [c]) := by
 unfold Fe
 by_cases h : P = []
 ·rw [if_pos h, h]; simp [Fy]
 ·rw [if_neg h, Ks _ _ h]; simp
theorem Kt {α : Type} [DecidableEq α] : ∀ {l m : List α}, l.Nodup → (∀ x ∈ l, x ∈ m) → l.length ≤ m.length
 | [], m, _, _ => by simp
 | x :: l, m, hn, hs => by
  rw [List.nodup_cons] at hn
  have hx : x ∈ m := hs x (by simp)
  have := Kt (l := l) (m := m.erase x) hn.2 fun y hy => (List.mem_erase_of_ne (fun e => hn.1 (by rw [← e]; exact hy))).2 (hs y (by simp [hy]))
  rw [List.length_erase_of_mem hx] at this
  have := List.length_pos_of_mem hx
  simp only [List.length_cons]
  omega
structure Vi (A : List Nd) (Ps : List Pa) : Prop where
 Mh : A.length ≤ 100000
 short : ∀ p ∈ Ps, (pj p).length ≤ 100000
theorem J4 {A : List Nd} {Ps : List Pa} (h : AI A Ps) (hs : Vi A Ps) {j : Nat} {x : Nd} (hx : A[j]? = some x) {c : B9} (hc : c ∈ x.AP.map Prod.fst) : ∃ P k, Ps[j]? = some P ∧ Cb x.AP c = some k ∧ Ps[k]? = some (P ++ [c]) ∧ (Fe P ++ c).length ≤ 100000 := by
 obtain ⟨P, hP⟩ := h.at_ hx
 obtain ⟨k, hk⟩ := Fs.1 hc
 have h2 := (h.Pu j x P hx hP c k).1 hk
 exact ⟨P, k, hP, hk, h2, by rw [Jp]; exact hs.short _ (List.mem_of_getElem? h2)⟩
theorem NW {A : List Nd} {Ps : List Pa} (h : AI A Ps) (hs : Vi A Ps) {j : Nat} {x : Nd} (hx : A[j]? = some x) : HJ (x.AP.map Prod.fst) = true := by
 unfold HJ
 rw [Bool.and_eq_true, decide_eq_true_iff, List.all_eq_true]
 refine ⟨?_, fun c hc => ?_⟩
 ·obtain ⟨P, hP⟩ := h.at_ hx
  have hn := h.keys x (List.mem_of_getElem? hx)
  have := Kt (l := (x.AP.map Prod.fst).map fun c => P ++ [c]) (m := Ps) (by
   rw [List.Nodup, List.pairwise_map]
   exact hn.imp fun hne e => hne (Hx e).2) (fun q hq => by
   obtain ⟨c, hc, rfl⟩ := List.mem_map.1 hq
   obtain ⟨k, hk⟩ := Fs.1 hc
   exact List.mem_of_getElem? ((h.Pu j x P hx hP c k).1 hk))
  rw [List.length_map, ← h.len] at this
  have := hs.Mh
  omega
 ·obtain ⟨P, k, _, _, _, h3⟩ := J4 h hs hx hc
  rw [decide_eq_true_iff]
  rw [List.length_append] at h3
  omega
theorem SN {A : List Nd} {Ps : List Pa} (h : AI A Ps) (hs : Vi A Ps) {j : Nat} {x : Nd} (hx : A[j]? = some x) : (Az (x.AP.map Prod.fst)).length ≤ 1099511627776 := by
 have := NW h hs hx
 unfold HJ at this
 rw [Bool.and_eq_true, decide_eq_true_iff] at this
 rw [(EM _).length_eq]
 exact this.1
theorem NQ {n : Nat} (h : n ≤ 100000) : n ≤ Fb := Nat.le_trans h (by unfold Fb; omega)
end Go.Av.L
