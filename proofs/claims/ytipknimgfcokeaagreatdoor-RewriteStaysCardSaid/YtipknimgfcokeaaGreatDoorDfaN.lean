/-
  Several texts in one.
-/
import Derived.Test.YtipknimgfcokeaaGreatDoorDfaC
/-
  Dfa: starting, stepping, where an automaton ends.
-/
section
namespace Go.Av.L
open Go.Av Go.Lib
set_option linter.unusedVariables false
set_option linter.unusedSimpArgs false
structure Vv (l : List AN) (s : List Int) : Prop where
 i : ∀ j ∈ s, Qi l.length j
 n : s.length ≤ 4096
theorem Qc {t : AI} {l : List AN} (h : Mp t l) {fr bk : Bool} {f : List Int} : Vv l (cl l fr bk f) := ⟨Wc, Nat.le_trans V7 h.le⟩
theorem NJ {t : AI} {a : Ak} (h : Xg t a) (fr : Bool) : Db a fr = some (cl a.l_ fr false [a.Aj]) := by
 unfold Db
 rw [Nk h.l (by intro i hi; obtain rfl := List.mem_singleton.1 hi; exact h.first) (by simp)]; rfl
noncomputable def L1 (l : List AN) (b : Int) (i : Int) : List Int :=
 match l[i.toNat]? with
 | some x => if x.CZ = 1 ∧ Nl x.CM b = true then [x.a_] else []
 | none => []
noncomputable def TP (l : List AN) (s : List Int) (b : Int) : List Int := cl l false false (s.flatMap (L1 l b))
theorem TT (l : List AN) (b i : Int) : (L1 l b i).length ≤ 1 := by
 unfold L1
 split
 ·split <;> simp
 ·simp
theorem OF (l : List AN) (b : Int) : ∀ s : List Int, (s.flatMap (L1 l b)).length ≤ s.length
 | [] => by simp
 | i :: s => by
  rw [List.flatMap_cons, List.length_append, List.length_cons]
  have := OF l b s
  have := TT l b i
  omega
theorem step_ok {t : AI} {a : Ak} (h : Mp t a.l_) {s : List Int} (hs : Vv a.l_ s) {b : Int} (hb : 0 ≤ b ∧ b ≤ 255) : EZ a s b = some (TP a.l_ s b) := by
 refine W.eq ?_
 unfold EZ
 have hn := hs.n
 refine W.bind (W.mono (W.list (l := s) (fun (o : List Int) (i : Nat) => (o, (i : Int))) (fun o i => o = (s.take i).flatMap (L1 a.l_ b)) ?_ ?_ [] (by simp) (Q := fun r => r = s.flatMap (L1 a.l_ b))) fun r hr => ?_)
 ·intro o ho
  unfold E6
  refine W.Di (fun h => by omega) fun _ => W.ret ?_
  simpa using ho
 ·intro o i hi ho
  unfold E6
  refine W.Di (fun _ => ?_) fun h => by omega
  rw [DM hi]
  obtain ⟨k, hk⟩ := Int.eq_ofNat_of_zero_le (hs.i _ (List.getElem_mem hi)).1
  have hkl : k < a.l_.length := by have := (hs.i _ (List.getElem_mem hi)).2; omega
  have ol : o.length ≤ i := by rw [ho]; exact Nat.le_trans (OF _ _ _) (by rw [List.length_take]; omega)
  have en : ∀ u, o ++ u = o ++ L1 a.l_ b s[i] → ∃ s', (o ++ u, IntKind.i64.wrap ((i : Int) + 1)) = (s', ((i + 1 : Nat) : Int)) ∧ s' = (s.take (i + 1)).flatMap (L1 a.l_ b) := by
   intro u hu
   refine ⟨_, by rw [Ha (by omega)], ?_⟩
   rw [JR (List.getElem?_eq_getElem hi), List.flatMap_append, ← ho, hu]
   simp
  have e1 : L1 a.l_ b s[i] = if a.l_[k].CZ = 1 ∧ Nl a.l_[k].CM b = true then [a.l_[k].a_] else [] := by
   unfold L1
   rw [hk, Int.toNat_natCast, List.getElem?_eq_getElem hkl]
  rw [hk] at *
  rw [Option.bind_some, DM hkl, Option.bind_some]
  generalize a.l_[k] = x at e1 ⊢
  rw [Fk]
  refine W.bind (W.bind (W.mono (Q := fun c => c = decide (x.CZ = 1 ∧ Nl x.CM b = true)) ?_ fun c hc => ?_))
  ·split
   ·rename_i h1
    rw [has_eq _ hb.1 hb.2]
    exact W.bind (W.ret (W.ret (by simp [h1])))
   ·rename_i h1
    exact W.ret (by simp [h1])
  ·subst hc
   refine W.Di (fun hc => W.Cm (Em (by simp; omega) (by simp; omega)) (W.ret (W.ret (en _ ?_)))) fun hc => W.ret (W.ret ?_)
   ·rw [e1, if_pos hc]
   ·have := en [] (by rw [e1, if_neg hc])
    rwa [List.append_nil] at this
 ·subst hr
  rw [Nk h ?_ (Nat.le_trans (OF _ _ _) hn)]
  ·exact W.bind (W.ret (W.ret rfl))
  ·intro i hi
   obtain ⟨j, hj, hi⟩ := List.mem_flatMap.1 hi
   unfold L1 at hi
   split at hi
   ·rename_i x hx
    split at hi
    ·obtain rfl := List.mem_singleton.1 hi
     exact (h.st x (List.mem_of_getElem? hx)).a
    ·cases hi
   ·cases hi
theorem U3 {l : List AN} {b : Int} : TP l [] b = [] := Qy
theorem TS (l : List Int) (hl : l.length ≤ 1099511627776) (x : Int) : W (Df l x) fun r => (0 ≤ r) ↔ x ∈ l := by
 unfold Df
 refine W.bind (W.mono (W.list (l := l) (fun (_ : Unit) (i : Nat) => (i : Int)) (fun _ i => x ∉ l.take i) ?_ ?_ () (by simp) (Q := fun o => match o with | .inl _ => x ∉ l | .inr r => 0 ≤ r ∧ x ∈ l)) fun o ho => ?_)
 ·intro _ h
  unfold Dp
  refine W.Di (fun h => by omega) fun _ => W.ret ?_
  simpa using h
 ·intro _ i hi h
  unfold Dp
  refine W.Di (fun _ => ?_) fun h => by omega
  rw [DM hi, Option.bind_some, Fk]
  split
  ·rename_i e
   exact W.ret ⟨by omega, by rw [e]; exact List.getElem_mem hi⟩
  ·rename_i e
   refine W.ret ⟨(), Ha (by omega), ?_⟩
   rw [JR (List.getElem?_eq_getElem hi)]
   simp only [List.mem_append, List.mem_singleton, not_or]
   exact ⟨h, e⟩
 ·cases o with
  | inl _ => exact W.ret ⟨fun h => absurd h (by decide), fun h => absurd h ho⟩
  | inr r => exact W.ret ⟨fun _ => ho.2, fun _ => ho.1⟩
theorem Pw (l : List Int) (hl : l.length ≤ 1099511627776) (x : Int) : Cy l x = some (decide (x ∈ l)) := by
 refine W.eq ?_
 unfold Cy
 refine W.bind ((TS l hl x).mono fun r hr => W.ret ?_)
 by_cases h : x ∈ l
 ·rw [decide_eq_true h, decide_eq_true (hr.2 h)]
 ·rw [decide_eq_false h, decide_eq_false (fun e => h (hr.1 e))]
theorem QB {t : AI} {a : Ak} (h : Mp t a.l_) {s : List Int} (hs : Vv a.l_ s) (fr bk : Bool) : EB a s fr bk = some (decide (0 ∈ cl a.l_ fr bk s)) := by
 unfold EB
 rw [Sg h hs.i hs.n, Option.bind_some, Pw _ (by have := (Qc h (fr := fr) (bk := bk) (f := s)).n; omega)]
 rfl
theorem Ol {t : AI} {a : Ak} (h : Mp t a.l_) {s : List Int} (hs : Vv a.l_ s) (bk : Bool) : D8 a s bk = some (decide (0 ∈ cl a.l_ false bk s)) := by
 unfold D8
 rw [QB h hs]; rfl
noncomputable def MA (l : List AN) : List Int → List UInt8 → Nat → List Int
 | set, [], i => if (0 : Int) ∈ cl l false true set then [(i : Int)] else []
 | set, b :: t, i => (if (0 : Int) ∈ cl l false false set then [(i : Int)] else []) ++ MA l (TP l set b.toNat) t (i + 1)
theorem Nz (l : List AN) : ∀ (s : List UInt8) (i : Nat), MA l [] s i = []
 | [], i => by simp [MA, Qy]
 | b :: t, i => by simp [MA, Qy, U3, Nz l t (i + 1)]
theorem TH {t : AI} {a : Ak} (h : Xg t a) : E9 a [] 0 = some (if (0 : Int) ∈ cl a.l_ true true [a.Aj] then [0] else []) := by
 refine W.eq ?_
 have hf : ∀ j ∈ [a.Aj], Qi a.l_.length j := by intro j hj; obtain rfl := List.mem_singleton.1 hj; exact h.first
 have e2 : cl a.l_ true true (cl a.l_ true false [a.Aj]) = cl a.l_ true true [a.Aj] := by
  refine UA fun j => ⟨fun hj => ?_, fun hj => ?_⟩
  ·induction hj with
   | base h' => exact ((Qn h.l hf).1 h').mono (fun e => e) (fun e => by cases e)
   | step _ hn ih => exact .step ih hn
  ·induction hj with
   | base h' => exact .base ((Qn h.l hf).2 (.base h'))
   | step _ hn ih => exact .step ih hn
 unfold E9
 refine W.ite (fun hb => by simp at hb) fun _ => ?_
 rw [show ((0 : Int) == (0 : Int)) = true from rfl, NJ h, Option.bind_some]
 refine W.bind (W.mono (W.Vl ?_) fun r hr => W.ret hr)
 unfold Fv
 refine W.Di (fun hp => ?_) fun hp => W.ret ?_
 ·simp only [List.length_nil, Int.natCast_zero, show ((0 : Int) == (0 : Int)) = true from rfl]
  rw [QB h.l (Qc h.l), e2]
  simp only [Option.bind_some, FX]
  refine W.bind (W.Di (fun h0 => W.Cm (Em (by simp) (by simp)) (W.ret (W.ret ?_))) fun h0 => W.ret (W.ret ?_))
  ·simp only [Le]; rw [if_pos h0]; rfl
  ·simp only [Le]; rw [if_neg h0]
 ·exfalso
  have : a.Aj ∈ cl a.l_ true false [a.Aj] := (Qn h.l hf).2 (.base (by simp))
  have := List.length_pos_of_mem this
  omega
end Go.Av.L
end
/-
  Dfa: how many sets of so many states there are.
-/
section
namespace Go.Av.L
open Go.Av Go.Lib
set_option linter.unusedVariables false
set_option linter.unusedSimpArgs false
def UU (N : Nat) (s : List Int) : Prop := ∃ p : Nat → Bool, s = ((List.range N).filter p).map fun i : Nat => (i : Int)
def code (s : List Int) : Nat := (s.map fun i => 2 ^ i.toNat).sum
theorem Kg (s t : List Int) : code (s ++ t) = code s + code t := by simp [code]
theorem UU.succ {N : Nat} {s : List Int} (h : UU (N + 1) s) : ∃ t, UU N t ∧ (s = t ∨ s = t ++ [(N : Int)]) := by
 obtain ⟨p, rfl⟩ := h
 refine ⟨_, ⟨p, rfl⟩, ?_⟩
 rw [List.range_succ, List.filter_append, List.map_append]
 by_cases hp : p N = true
 ·exact .inr (by rw [List.filter_cons_of_pos hp]; rfl)
 ·exact .inl (by rw [List.filter_cons_of_neg hp]; simp)
theorem NV (N : Nat) : code [(N : Int)] = 2 ^ N := by simp [code]
theorem NH : ∀ (N : Nat) (s : List Int), UU N s → code s < 2 ^ N
 | 0, s, h => by
  obtain ⟨p, rfl⟩ := h
  simp [code]
 | N + 1, s, h => by
  obtain ⟨t, ht, e⟩ := h.succ
  have := NH N t ht
  rw [Nat.pow_succ]
  rcases e with rfl | rfl
  ·omega
  ·rw [Kg, NV]; omega
theorem NQ : ∀ (N : Nat) (s s' : List Int), UU N s → UU N s' → code s = code s' → s = s'
 | 0, s, s', h, h', _ => by
  obtain ⟨p, rfl⟩ := h
  obtain ⟨q, rfl⟩ := h'
  simp
 | N + 1, s, s', h, h', e => by
  obtain ⟨t, ht, et⟩ := h.succ
  obtain ⟨t', ht', et'⟩ := h'.succ
  have l1 := NH N t ht
  have l2 := NH N t' ht'
  rcases et with rfl | rfl <;> rcases et' with rfl | rfl
  ·exact NQ N _ _ ht ht' e
  ·rw [Kg, NV] at e; omega
  ·rw [Kg, NV] at e; omega
  ·rw [Kg, Kg] at e
   rw [NQ N _ _ ht ht' (by omega)]
theorem UR {s : List Int} (h : s ≠ []) : 0 < code s := by
 cases s with
 | nil => exact absurd rfl h
 | cons a l =>
  have : 0 < 2 ^ a.toNat := Nat.pow_pos (by omega)
  simp only [code, List.map_cons, List.sum_cons]
  omega
theorem RA : ∀ (n : Nat) (l : List Nat), l.Nodup → (∀ x ∈ l, x < n) → l.length ≤ n
 | 0, l, _, h => by
  cases l with
  | nil => simp
  | cons a l => exact absurd (h a (by simp)) (by omega)
 | n + 1, l, hn, h => by
  by_cases hm : n ∈ l
  ·have h1 := RA n (l.erase n) (hn.erase n) fun x hx => by
    have h2 := h x (List.mem_of_mem_erase hx)
    have h3 : x ≠ n := fun e => by subst e; exact (hn.not_mem_erase) hx
    omega
   rw [List.length_erase_of_mem hm] at h1
   omega
  ·have := RA n l hn fun x hx => by
    have h2 := h x hx
    have h3 : x ≠ n := fun e => hm (e ▸ hx)
    omega
   omega
theorem Ul {N : Nat} {todo : List (List Int)} (hn : todo.Nodup) (hs : ∀ s ∈ todo, s ≠ [] ∧ UU N s) : todo.length < 2 ^ N := by
 have hp : 0 < 2 ^ N := Nat.pow_pos (by omega)
 have h := RA (2 ^ N) (0 :: todo.map code) (by
  refine List.nodup_cons.2 ⟨fun h => ?_, ?_⟩
  ·obtain ⟨s, h1, h2⟩ := List.mem_map.1 h
   have := UR (hs s h1).1
   omega
  ·unfold List.Nodup at hn ⊢
   rw [List.pairwise_map]
   exact hn.imp_of_mem fun {a b} ha hb hab e => hab (NQ N a b (hs a ha).2 (hs b hb).2 e)) (fun x hx => by
  rcases List.mem_cons.1 hx with rfl | hx
  ·exact hp
  ·obtain ⟨s, h1, rfl⟩ := List.mem_map.1 hx
   exact NH N s (hs s h1).2)
 simp only [List.length_cons, List.length_map] at h
 omega
theorem RF (l : List AN) (fr bk : Bool) (f : List Int) : UU l.length (cl l fr bk f) := ⟨_, rfl⟩
end Go.Av.L
end
