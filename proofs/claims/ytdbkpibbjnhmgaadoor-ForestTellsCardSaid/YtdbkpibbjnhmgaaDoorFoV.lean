/-
  Several texts in one.
-/
import Derived.Test.YtdbkpibbjnhmgaaDoorFoR
/-
 A part.
-/
section
namespace Go.Av.L
open Go.Av Go.Lib
set_option linter.unusedVariables false
set_option linter.unusedSimpArgs false
theorem Kj {α : Type} {l : List α} {i : Nat} (h : i < l.length) (f : α → Bool) : (l.drop i).filter f = (bif f l[i] then [l[i]] else []) ++ (l.drop (i + 1)).filter f := by
 rw [drop_cons h, List.filter_cons]
 cases f l[i] <;> rfl
theorem TF {front : Bw} {x : Nd} (hf : front.length ≤ 100000) (hk : ∀ c ∈ x.AP.map Prod.fst, c.length ≤ 100000) (hn : (x.AP.map Prod.fst).length ≤ 100000) :
  loop (As front x) (([] : List Bw), (0 : Int)) = some ((Bb (x.AP.map Prod.fst)).map fun c => front ++ c) := by
 obtain ⟨S, hS⟩ : ∃ S, S = Bb (x.AP.map Prod.fst) := ⟨_, rfl⟩
 have hSl : S.length ≤ 100000 := by rw [hS, (ED _).length_eq]; exact hn
 have hSk : ∀ c ∈ S, c.length ≤ 100000 := fun c hc => hk c (by rw [hS] at hc; exact Gi.1 hc)
 have key : ∀ (n i : Nat) (acc : List Bw), i + n = S.length → acc.length ≤ i →
   loop (As front x) (acc, (i : Int)) = some (acc ++ (S.drop i).map fun c => front ++ c) := by
  intro n
  induction n with
  | zero =>
   intro i acc hi ha
   refine Ba ?_
   rw [As, ← hS, AR, if_neg (by omega), List.drop_of_length_le (by omega)]
   simp
  | succ n ih =>
   intro i acc hi ha
   have hlt : i < S.length := by omega
   have hc := hSk _ (List.getElem_mem hlt)
   have st : As front x (acc, (i : Int)) = some (.inl (acc ++ [front ++ S[i]], ((i + 1 : Nat) : Int))) := by
    rw [As, ← hS, AR, if_pos (by omega), Br hlt, Option.bind_some, decide_eq_true (by omega), Ao, FB (by simp; omega) (by simp; omega), Ao, Eh (by omega)]
   rw [Cx st, ih (i + 1) _ (by omega) (by simp; omega), drop_cons hlt, List.map_cons, List.append_assoc]
   rfl
 have := key S.length 0 [] (by omega) (by simp)
 rw [show ((0 : Nat) : Int) = 0 from rfl] at this
 rw [this, List.drop_zero, List.nil_append, hS]
theorem L5 {l : List Mb} (hs : Small l) {R : List Rw} (hr : Iu (paths l) l.length R) : ∀ x ∈ R, (∀ c ∈ x.L, Nz c) ∧ x.L.length < 900000 ∧ (pj x.L).length < 900000000 := fun x hx => by
 obtain ⟨g1, _⟩ := RE hs hr
 obtain ⟨h1, h2, h3⟩ := g1 x hx
 refine ⟨h1, ?_, h3⟩
 have := J2 ((hr.keys x.L).1 (List.mem_map.2 ⟨x, hx, rfl⟩)).2 hs.D1
 omega
theorem O5 {s : Bw} (hs : s.length ≤ 200) : ((DH s).bind fun x2 => (BM (!(x2 == ([] : List UInt8))) (Dm (decide (x2.length + ([47] : List UInt8).length ≤ 9223372036854775807)) <| some (x2 ++ ([47] : List UInt8))) (some x2) : Option (((List UInt8))))) = some (CT (D1 s)) := by
 rw [OM (by omega), Option.bind_some]
 have hl := El s
 unfold CT
 by_cases h : D1 s = []
 ·rw [if_pos h, h, G6]; rfl
 ·rw [if_neg h, beq_eq_false_iff_ne.2 (Ub (fun x hx => JV hx) h), Bool.not_false, BY, decide_eq_true (by simp; omega), Ao]
theorem OY {l : List Mb} (hs : Small l) {A : List Nd} {Ps : List Pa} (h : GL l l.length A Ps) {f : AV} (hf : f.Au = 0) {s : Bw} (hl : s.length ≤ 200) {k : Nat} (h2 : Ps[k]? = some (D1 s)) :
  ∃ x, A[k]? = some x ∧ BZ f s A = some ((Bb (x.AP.map Prod.fst)).map fun c => CT (D1 s) ++ c) := by
 have hsm := h.W7 hs
 have hpl := LC s
 unfold BZ
 rcases find_eq hs h hf hl with ⟨k', h1, h2'⟩ | ⟨h1, h2'⟩
 ·have ek := Ff h.ai.Tk h2' h2
  subst ek
  rw [h1, Option.bind_some]
  dsimp only
  obtain ⟨x, hx⟩ := h.ai.node h2
  refine ⟨x, hx, ?_⟩
  have hc := O5 hl
  obtain ⟨fr, hfr⟩ : ∃ fr, fr = CT (D1 s) := ⟨_, rfl⟩
  rw [← Option.bind_assoc, hc, Option.bind_some, hx, Option.bind_some, Ng h.ai hsm hx, Ao]
  have hkey : ∀ c ∈ x.AP.map Prod.fst, ∃ k', CY x.AP c = some k' ∧ Ps[k']? = some (D1 s ++ [c]) ∧ (CT (D1 s) ++ c).length ≤ 100000 := fun c hc => by
   obtain ⟨P, k', e1, e2, e3, e4⟩ := KT h.ai hsm hx hc
   rw [h2] at e1
   cases e1
   exact ⟨k', e2, e3, e4⟩
  have hn : (x.AP.map Prod.fst).length ≤ 100000 := by
   have hn := h.ai.keys x (List.mem_of_getElem? hx)
   have := Nb (l := (x.AP.map Prod.fst).map fun c => D1 s ++ [c]) (m := Ps) (by
    rw [List.Nodup, List.pairwise_map]
    exact hn.imp fun hne e => hne (Hy e).2) (fun q hq => by
    obtain ⟨c, hc, rfl⟩ := List.mem_map.1 hq
    obtain ⟨k', _, e, _⟩ := hkey c hc
    exact List.mem_of_getElem? e)
   rw [List.length_map, ← h.ai.len] at this
   have := hsm.Ky
   omega
  have hfl : (CT (D1 s)).length ≤ 100000 := by
   have := El s
   unfold CT
   split
   ·simp
   ·simp; omega
  rw [TF hfl (fun c hc => by obtain ⟨_, _, _, e⟩ := hkey c hc; rw [List.length_append] at e; omega) hn, Option.bind_some]
 ·exact absurd (List.mem_of_getElem? h2) h2'
end Go.Av.L
end
/-
 A part.
-/
section
namespace Go.Av.L
open Go.Av Go.Lib
set_option linter.unusedVariables false
set_option linter.unusedSimpArgs false
theorem OI {A : List Nd} {Ps : List Pa} {SY RY : Type} {Y : SY → Bw × Int → Option (SY ⊕ RY)} : ∀ (ks : List Nat), (∀ k ∈ ks, ∃ x, A[k]? = some x ∧ x.at_ = H0 A k) → ∀ (y y' : SY ⊕ RY) (b : Bool), feed Y (ks.map fun k => (pj (Ms Ps k), H0 A k)) y = some (b, y') →
  feed (BB Y A) (ks.map (Td Ps)) (.inl y) = some (b, bif b then .inl y' else .inr y')
 | [], _, y, y', b, h => by
  simp only [List.map_nil, feed, Option.some.injEq, Prod.mk.injEq] at h
  obtain ⟨rfl, rfl⟩ := h
  rfl
 | k :: ks, hk, y, y', b, h => by
  obtain ⟨x, hx, ha⟩ := hk k (by simp)
  simp only [List.map_cons, feed] at h ⊢
  cases hy : N1 Y y (pj (Ms Ps k), H0 A k) with
  | none => rw [hy] at h; cases h
  | some o =>
   obtain ⟨b1, y1⟩ := o
   rw [hy] at h
   simp only [Option.bind_some] at h
   have e0 : BB Y A y (Td Ps k) = some (bif b1 then .inl y1 else .inr y1) := by
    rw [BB]
    show (A[k]?).bind _ = _
    rw [hx, Option.bind_some, ha, hy, Option.bind_some]
    cases b1 <;> rfl
   cases b1 with
   | false =>
    simp only [cond_false, Option.some.injEq, Prod.mk.injEq] at h
    obtain ⟨rfl, rfl⟩ := h
    rw [G5 e0]
    rfl
   | true =>
    simp only [cond_true] at h
    rw [G5 e0]
    exact OI ks (fun k' hk' => hk k' (by simp [hk'])) y1 y' b h
theorem all_some {l : List Mb} (hs : Small l) {A : List Nd} {Ps : List Pa} (h : GL l l.length A Ps) {f : AV} (hf : f.Au = 0) {SY RY : Type} {Y : SY → Bw × Int → Option (SY ⊕ RY)} {y y' : SY ⊕ RY} {b : Bool} (hy : feed Y ((L2 A).map fun k => (pj (Ms Ps k), H0 A k)) y = some (b, y')) :
  Bj Y y f A = some y' := by
 unfold Bj By
 rw [Option.bind_some, L6 hs h hf (OI (Ps := Ps) _ (fun k hk => by
  obtain ⟨x, h1, _, _, h4, _⟩ := LD hs h hk
  exact ⟨x, h1, h4⟩) y y' b hy), Option.bind_some]
 cases b <;> rfl
end Go.Av.L
end
