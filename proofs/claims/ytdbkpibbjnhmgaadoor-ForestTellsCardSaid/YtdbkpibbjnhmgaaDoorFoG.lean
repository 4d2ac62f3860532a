/-
 A part.
-/
import Derived.Test.YtdbkpibbjnhmgaaDoorFoF
namespace Go.Av.L
open Go.Av Go.Lib
set_option linter.unusedVariables false
set_option linter.unusedSimpArgs false
def SX (A : List Nd) : Nat → Nat → List Nat
 | 0, _ => []
 | n + 1, j => match A[j]? with
  | none => []
  | some x => (Bb (x.AP.map Prod.fst)).flatMap fun c => match CY x.AP c with
   | none => []
   | some k => k :: SX A n k
abbrev Ms (Ps : List Pa) (k : Nat) : Pa := Ps.getD k []
theorem Ix {Ps : List Pa} {k : Nat} {p : Pa} (h : Ps[k]? = some p) : Ms Ps k = p := by
 unfold Ms
 rw [List.getD_eq_getElem?_getD, h]; rfl
theorem FX {m : List (Bw × Nat)} {c : Bw} : c ∈ m.map Prod.fst ↔ ∃ k, CY m c = some k := by
 induction m with
 | nil => simp [CY]
 | cons p m ih =>
  obtain ⟨c', k'⟩ := p
  unfold CY
  by_cases h : c = c'
  ·rw [if_pos h]; simp [h]
  ·rw [if_neg h, List.map_cons, List.mem_cons, ih]; simp [h]
theorem Gi {l : List Bw} {c : Bw} : c ∈ Bb l ↔ c ∈ l := (ED l).mem_iff
theorem NA {l : List Bw} (h : l.Nodup) : (Bb l).Pairwise fun a b : Bw => a < b := by
 have h1 := Gx l
 have h2 : (Bb l).Nodup := ((ED l).nodup_iff).2 h
 exact (h1.and h2).imp fun {a b} q => by
  by_cases hlt : a < b
  ·exact hlt
  ·exact absurd (List.le_antisymm q.1 (List.not_lt.1 hlt)) q.2
theorem AI.gt {A : List Nd} {Ps : List Pa} (h : AI A Ps) {j k : Nat} {p : Pa} {c : Bw} (hj : Ps[j]? = some p) (hk : Ps[k]? = some (p ++ [c])) : j < k := by
 obtain ⟨j', h1, h2⟩ := h.par k p c hk
 rw [Ff h.Tk hj h2]; exact h1
theorem AI.front {A : List Nd} {Ps : List Pa} (h : AI A Ps) {k : Nat} {p : Pa} : ∀ (d : Pa), Ps[k]? = some (p ++ d) → ∃ j : Nat, Ps[j]? = some p := by
 intro d
 induction hn : d.length generalizing d k with
 | zero =>
  intro hk
  have : d = [] := List.eq_nil_of_length_eq_zero hn
  subst this
  exact ⟨k, by rw [List.append_nil] at hk; exact hk⟩
 | succ n ih =>
  intro hk
  have hne : d ≠ [] := by rintro rfl; simp at hn
  have e : d = d.dropLast ++ [d.getLast hne] := (List.dropLast_concat_getLast hne).symm
  rw [e, ← List.append_assoc] at hk
  obtain ⟨j, _, h2⟩ := h.par k _ _ hk
  exact ih d.dropLast (by rw [List.length_dropLast]; omega) h2
theorem Gz {A : List Nd} {Ps : List Pa} (h : AI A Ps) : ∀ (m j : Nat) (P : Pa), Ps[j]? = some P → A.length - j ≤ m → ∀ k, k ∈ SX A m j ↔ ∃ d, d ≠ [] ∧ Ps[k]? = some (P ++ d)
 | 0, j, P, hj, hm, k => by
  have := (List.getElem?_eq_some_iff.1 hj).1
  rw [← h.len] at this
  omega
 | m + 1, j, P, hj, hm, k => by
  obtain ⟨x, hx⟩ := h.node hj
  unfold SX
  rw [hx]
  simp only [List.mem_flatMap, Gi]
  constructor
  ·rintro ⟨c, hc, hk⟩
   obtain ⟨k', hk'⟩ := FX.1 hc
   rw [hk'] at hk
   have hP := (h.Ic j x P hx hj c k').1 hk'
   have hgt := h.gt hj hP
   rcases List.mem_cons.1 hk with rfl | hk
   ·exact ⟨[c], by simp, hP⟩
   ·obtain ⟨d, hd, h2⟩ := (Gz h m k' _ hP (by omega) k).1 hk
    exact ⟨[c] ++ d, by simp, by rw [← List.append_assoc]; exact h2⟩
  ·rintro ⟨d, hd, hk⟩
   obtain ⟨c, d', rfl⟩ : ∃ c d', d = c :: d' := by
    cases d with
    | nil => exact absurd rfl hd
    | cons c d' => exact ⟨c, d', rfl⟩
   have e : P ++ c :: d' = (P ++ [c]) ++ d' := by simp
   rw [e] at hk
   obtain ⟨k', hP⟩ := h.front d' hk
   have hk' := (h.Ic j x P hx hj c k').2 hP
   refine ⟨c, FX.2 ⟨k', hk'⟩, ?_⟩
   rw [hk']
   have hgt := h.gt hj hP
   cases d' with
   | nil =>
    rw [List.append_nil] at hk
    rw [Ff h.Tk hk hP]
    exact List.mem_cons_self ..
   | cons a b => exact List.mem_cons_of_mem _ ((Gz h m k' _ hP (by omega) k).2 ⟨a :: b, by simp, hk⟩)
theorem Nu {A : List Nd} {Ps : List Pa} (h : AI A Ps) : ∀ (m j : Nat) (P : Pa), Ps[j]? = some P → A.length - j ≤ m → ((SX A m j).map (Ms Ps)).Pairwise Ha
 | 0, j, P, hj, hm => by
  have := (List.getElem?_eq_some_iff.1 hj).1
  rw [← h.len] at this
  omega
 | m + 1, j, P, hj, hm => by
  obtain ⟨x, hx⟩ := h.node hj
  unfold SX
  rw [hx]
  simp only [List.map_flatMap]
  have mem : ∀ c ∈ Bb (x.AP.map Prod.fst), ∃ k', CY x.AP c = some k' ∧ Ps[k']? = some (P ++ [c]) ∧ j < k' := fun c hc => by
   obtain ⟨k', hk'⟩ := FX.1 (Gi.1 hc)
   have hP := (h.Ic j x P hx hj c k').1 hk'
   exact ⟨k', hk', hP, h.gt hj hP⟩
  have form : ∀ c ∈ Bb (x.AP.map Prod.fst), ∀ q ∈ (match CY x.AP c with | none => [] | some k => k :: SX A m k).map (Ms Ps), ∃ d, q = P ++ c :: d := fun c hc q hq => by
   obtain ⟨k', hk', hP, hgt⟩ := mem c hc
   rw [hk'] at hq
   obtain ⟨k, hk, rfl⟩ := List.mem_map.1 hq
   rcases List.mem_cons.1 hk with rfl | hk
   ·exact ⟨[], Ix hP⟩
   ·obtain ⟨d, _, h2⟩ := (Gz h m k' _ hP (by omega) k).1 hk
    exact ⟨d, by rw [Ix h2]; simp⟩
  rw [List.pairwise_flatMap]
  refine ⟨fun c hc => ?_, ?_⟩
  ·obtain ⟨k', hk', hP, hgt⟩ := mem c hc
   rw [hk']
   simp only [List.map_cons]
   rw [List.pairwise_cons]
   refine ⟨fun q hq => ?_, Nu h m k' _ hP (by omega)⟩
   obtain ⟨k, hk, rfl⟩ := List.mem_map.1 hq
   obtain ⟨d, hd, h2⟩ := (Gz h m k' _ hP (by omega) k).1 hk
   rw [Ix hP, Ix h2]
   exact UM _ hd
  ·have hx' := h.keys x (List.mem_of_getElem? hx)
   refine (List.pairwise_iff_getElem.2 fun i i' hi hi' hlt => ?_)
   intro q hq q' hq'
   have hs := List.pairwise_iff_getElem.1 (NA hx') i i' hi hi' hlt
   obtain ⟨d, rfl⟩ := form _ (List.getElem_mem hi) q hq
   obtain ⟨d', rfl⟩ := form _ (List.getElem_mem hi') q' hq'
   rw [Jk]
   exact .inl hs
def feed {X SY RY : Type} (Y : SY → X → Option (SY ⊕ RY)) : List X → SY ⊕ RY → Option (Bool × (SY ⊕ RY))
 | [], y => some (true, y)
 | x :: l, y => (N1 Y y x).bind fun (b, y') => bif b then feed Y l y' else some (false, y')
theorem O6 {X SY RY : Type} {Y : SY → X → Option (SY ⊕ RY)} : ∀ (l r : List X) (y : SY ⊕ RY), feed Y (l ++ r) y = (feed Y l y).bind fun (b, y') => bif b then feed Y r y' else some (false, y')
 | [], r, y => rfl
 | x :: l, r, y => by
  show ((N1 Y y x).bind fun (b, y') => bif b then feed Y (l ++ r) y' else some (false, y')) = ((N1 Y y x).bind fun (b, y') => bif b then feed Y l y' else some (false, y')).bind _
  cases N1 Y y x with
  | none => rfl
  | some o =>
   obtain ⟨b, y'⟩ := o
   cases b with
   | true => exact O6 l r y'
   | false => rfl
def CT (P : Pa) : Bw := if P = [] then [] else pj P ++ [47]
theorem Gp (P : Pa) (c : Bw) : CT P ++ c = pj (P ++ [c]) := by
 unfold CT
 by_cases h : P = []
 ·rw [if_pos h, h]; simp [Fh]
 ·rw [if_neg h, LA _ _ h]; simp
theorem NI (P : Pa) (c : Bw) : CT (P ++ [c]) = pj (P ++ [c]) ++ [47] := if_neg (by simp)
theorem Nb {α : Type} [DecidableEq α] : ∀ {l m : List α}, l.Nodup → (∀ x ∈ l, x ∈ m) → l.length ≤ m.length
 | [], m, _, _ => by simp
 | x :: l, m, hn, hs => by
  rw [List.nodup_cons] at hn
  have hx : x ∈ m := hs x (by simp)
  have := Nb (l := l) (m := m.erase x) hn.2 fun y hy => (List.mem_erase_of_ne (fun e => hn.1 (by rw [← e]; exact hy))).2 (hs y (by simp [hy]))
  rw [List.length_erase_of_mem hx] at this
  have := List.length_pos_of_mem hx
  simp only [List.length_cons]
  omega
structure Wk (A : List Nd) (Ps : List Pa) : Prop where
 Ky : A.length ≤ 100000
 short : ∀ p ∈ Ps, (pj p).length ≤ 100000
theorem KT {A : List Nd} {Ps : List Pa} (h : AI A Ps) (hs : Wk A Ps) {j : Nat} {x : Nd} (hx : A[j]? = some x) {c : Bw} (hc : c ∈ x.AP.map Prod.fst) : ∃ P k, Ps[j]? = some P ∧ CY x.AP c = some k ∧ Ps[k]? = some (P ++ [c]) ∧ (CT P ++ c).length ≤ 100000 := by
 obtain ⟨P, hP⟩ := h.at_ hx
 obtain ⟨k, hk⟩ := FX.1 hc
 have h2 := (h.Ic j x P hx hP c k).1 hk
 exact ⟨P, k, hP, hk, h2, by rw [Gp]; exact hs.short _ (List.mem_of_getElem? h2)⟩
theorem Ng {A : List Nd} {Ps : List Pa} (h : AI A Ps) (hs : Wk A Ps) {j : Nat} {x : Nd} (hx : A[j]? = some x) : Hu (x.AP.map Prod.fst) = true := by
 unfold Hu
 rw [Bool.and_eq_true, decide_eq_true_iff, List.all_eq_true]
 refine ⟨?_, fun c hc => ?_⟩
 ·obtain ⟨P, hP⟩ := h.at_ hx
  have hn := h.keys x (List.mem_of_getElem? hx)
  have := Nb (l := (x.AP.map Prod.fst).map fun c => P ++ [c]) (m := Ps) (by
   rw [List.Nodup, List.pairwise_map]
   exact hn.imp fun hne e => hne (Hy e).2) (fun q hq => by
   obtain ⟨c, hc, rfl⟩ := List.mem_map.1 hq
   obtain ⟨k, hk⟩ := FX.1 hc
   exact List.mem_of_getElem? ((h.Ic j x P hx hP c k).1 hk))
  rw [List.length_map, ← h.len] at this
  have := hs.Ky
  omega
 ·obtain ⟨P, k, _, _, _, h3⟩ := KT h hs hx hc
  rw [decide_eq_true_iff]
  rw [List.length_append] at h3
  omega
theorem R7 {A : List Nd} {Ps : List Pa} (h : AI A Ps) (hs : Wk A Ps) {j : Nat} {x : Nd} (hx : A[j]? = some x) : (Bb (x.AP.map Prod.fst)).length ≤ 1099511627776 := by
 have := Ng h hs hx
 unfold Hu at this
 rw [Bool.and_eq_true, decide_eq_true_iff] at this
 rw [(ED _).length_eq]
 exact this.1
abbrev Td (Ps : List Pa) (k : Nat) : Bw × Nat := (pj (Ms Ps k), k)
theorem My {A : List Nd} {Ps : List Pa} (h : AI A Ps) (hs : Wk A Ps) {SY RY : Type} {Y : SY → Bw × Nat → Option (SY ⊕ RY)} : ∀ (m j : Nat) (P : Pa), Ps[j]? = some P → A.length - j ≤ m → ∀ (y y' : SY ⊕ RY) (b : Bool), feed Y ((SX A m j).map (Td Ps)) y = some (b, y') →
  (Ay m).Ah j (CT P) Y y A = some (b, y')
 | 0, j, P, hj, hm, _, _, _, _ => by
  have := (List.getElem?_eq_some_iff.1 hj).1
  rw [← h.len] at this
  omega
 | m + 1, j, P, hj, hm, y, y', b, hf => by
  obtain ⟨x, hx⟩ := h.node hj
  have ih := My h hs (Y := Y) m
  have hfew := R7 h hs hx
  unfold SX at hf
  rw [hx] at hf
  simp only at hf
  show Bz (Ay m) j (CT P) Y y A = _
  unfold Bz
  rw [hx, Option.bind_some, Ng h hs hx, Ao]
  obtain ⟨ks, hks⟩ : ∃ ks, ks = Bb (x.AP.map Prod.fst) := ⟨_, rfl⟩
  rw [← hks] at hf hfew
  have key : ∀ (n i : Nat) (y : SY ⊕ RY), i + n = ks.length → feed Y (((ks.drop i).flatMap fun c => match CY x.AP c with | none => [] | some k => k :: SX A m k).map (Td Ps)) y = some (b, y') →
    loop (Af (Ay m) j (CT P) Y A x) ((i : Int), y) = some (bif b then .inl y' else .inr (false, y')) := by
   intro n
   induction n with
   | zero =>
    intro i y hi hf
    rw [List.drop_eq_nil_of_le (by omega)] at hf
    simp only [List.flatMap_nil, List.map_nil, feed, Option.some.injEq, Prod.mk.injEq] at hf
    obtain ⟨rfl, rfl⟩ := hf
    refine Ba ?_
    rw [Af, ← hks, AR, if_neg (by omega)]
    rfl
   | succ n ih2 =>
    intro i y hi hf
    have hlt : i < ks.length := by omega
    have hc : ks[i] ∈ x.AP.map Prod.fst := Gi.1 (by rw [← hks]; exact List.getElem_mem hlt)
    obtain ⟨P', k, hP', hk, h2, h3⟩ := KT h hs hx hc
    have eP : P' = P := by rw [hj] at hP'; injection hP' with e; exact e.symm
    subst eP
    have hgt := h.gt hj h2
    rw [drop_cons hlt, List.flatMap_cons, List.map_append, O6, hk] at hf
    simp only [List.map_cons, feed] at hf
    have etx : Td Ps k = (CT P' ++ ks[i], k) := by
     show (pj (Ms Ps k), k) = _
     rw [Ix h2, Gp]
    rw [etx] at hf
    cases hy : N1 Y y (CT P' ++ ks[i], k) with
    | none => rw [hy] at hf; simp at hf
    | some o =>
     obtain ⟨b1, y1⟩ := o
     rw [hy] at hf
     simp only [Option.bind_some] at hf
     rw [List.length_append] at h3
     cases b1 with
     | false =>
      simp only [cond_false, Option.bind_some, Option.some.injEq, Prod.mk.injEq] at hf
      obtain ⟨rfl, rfl⟩ := hf
      refine Ba ?_
      rw [Af, ← hks, AR, if_pos (by omega), Br hlt, Option.bind_some, decide_eq_true (by omega), Ao, hx, Option.bind_some, hk]
      simp only [Ks]
      rw [hy, Option.bind_some]
      rfl
     | true =>
      simp only [cond_true] at hf
      cases hw : feed Y ((SX A m k).map (Td Ps)) y1 with
      | none => rw [hw] at hf; simp at hf
      | some o2 =>
       obtain ⟨b2, y2⟩ := o2
       rw [hw] at hf
       simp only [Option.bind_some] at hf
       have hrec := ih k _ h2 (by omega) y1 y2 b2 hw
       have ef : CT (P' ++ [ks[i]]) = (CT P' ++ ks[i]) ++ [47] := by rw [NI, Gp]
       rw [ef] at hrec
       have hlen : decide ((CT P' ++ ks[i]).length + ([47] : List UInt8).length ≤ 9223372036854775807) = true := decide_eq_true (by rw [List.length_append, List.length_singleton]; omega)
       cases b2 with
       | false =>
        simp only [cond_false, Option.some.injEq, Prod.mk.injEq] at hf
        obtain ⟨rfl, rfl⟩ := hf
        refine Ba ?_
        rw [Af, ← hks, AR, if_pos (by omega), Br hlt, Option.bind_some, decide_eq_true (by omega), Ao, hx, Option.bind_some, hk]
        simp only [Ks]
        rw [hy, Option.bind_some]
        simp only [Bool.not_true, A7, Option.bind_some, hk]
        rw [hlen, Ao, hrec]
        rfl
       | true =>
        simp only [cond_true] at hf
        have st : Af (Ay m) j (CT P') Y A x ((i : Int), y) = some (.inl (((i + 1 : Nat) : Int), y2)) := by
         rw [Af, ← hks, AR, if_pos (by omega), Br hlt, Option.bind_some, decide_eq_true (by omega), Ao, hx, Option.bind_some, hk]
         simp only [Ks]
         rw [hy, Option.bind_some]
         simp only [Bool.not_true, A7, Option.bind_some, hk]
         rw [hlen, Ao, hrec]
         simp only [Option.bind_some, Bool.not_true, A7]
         rw [Eh (by omega)]
        rw [Cx st]
        exact ih2 (i + 1) y2 (by omega) hf
  have := key ks.length 0 y (by omega) (by rw [List.drop_zero]; exact hf)
  rw [show ((0 : Nat) : Int) = 0 from rfl] at this
  rw [this]
  cases b <;> rfl
theorem K0 {n : Nat} (h : n ≤ 100000) : n ≤ KR := Nat.le_trans h (by unfold KR; omega)
end Go.Av.L
