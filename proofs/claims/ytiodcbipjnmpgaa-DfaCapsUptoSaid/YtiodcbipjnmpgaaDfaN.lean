/-
  Dfa: how many sets of so many states there are.
-/
import Derived.Test.YtiodcbipjnmpgaaDfaD
namespace Go.Av.L
open Go.Av Go.Lib
set_option linter.unusedVariables false
set_option linter.unusedSimpArgs false
def Shp (N : Nat) (s : List Int) : Prop := ∃ p : Nat → Bool, s = ((List.range N).filter p).map fun i : Nat => (i : Int)
def code (s : List Int) : Nat := (s.map fun i => 2 ^ i.toNat).sum
theorem code_app (s t : List Int) : code (s ++ t) = code s + code t := by simp [code]
theorem Shp.succ {N : Nat} {s : List Int} (h : Shp (N + 1) s) : ∃ t, Shp N t ∧ (s = t ∨ s = t ++ [(N : Int)]) := by
 obtain ⟨p, rfl⟩ := h
 refine ⟨_, ⟨p, rfl⟩, ?_⟩
 rw [List.range_succ, List.filter_append, List.map_append]
 by_cases hp : p N = true
 ·exact .inr (by rw [List.filter_cons_of_pos hp]; rfl)
 ·exact .inl (by rw [List.filter_cons_of_neg hp]; simp)
theorem code_one (N : Nat) : code [(N : Int)] = 2 ^ N := by simp [code]
theorem code_lt : ∀ (N : Nat) (s : List Int), Shp N s → code s < 2 ^ N
 | 0, s, h => by
  obtain ⟨p, rfl⟩ := h
  simp [code]
 | N + 1, s, h => by
  obtain ⟨t, ht, e⟩ := h.succ
  have := code_lt N t ht
  rw [Nat.pow_succ]
  rcases e with rfl | rfl
  ·omega
  ·rw [code_app, code_one]; omega
theorem code_inj : ∀ (N : Nat) (s s' : List Int), Shp N s → Shp N s' → code s = code s' → s = s'
 | 0, s, s', h, h', _ => by
  obtain ⟨p, rfl⟩ := h
  obtain ⟨q, rfl⟩ := h'
  simp
 | N + 1, s, s', h, h', e => by
  obtain ⟨t, ht, et⟩ := h.succ
  obtain ⟨t', ht', et'⟩ := h'.succ
  have l1 := code_lt N t ht
  have l2 := code_lt N t' ht'
  rcases et with rfl | rfl <;> rcases et' with rfl | rfl
  ·exact code_inj N _ _ ht ht' e
  ·rw [code_app, code_one] at e; omega
  ·rw [code_app, code_one] at e; omega
  ·rw [code_app, code_app] at e
   rw [code_inj N _ _ ht ht' (by omega)]
theorem code_pos {s : List Int} (h : s ≠ []) : 0 < code s := by
 cases s with
 | nil => exact absurd rfl h
 | cons a l =>
  have : 0 < 2 ^ a.toNat := Nat.pow_pos (by omega)
  simp only [code, List.map_cons, List.sum_cons]
  omega
theorem pigeon : ∀ (n : Nat) (l : List Nat), l.Nodup → (∀ x ∈ l, x < n) → l.length ≤ n
 | 0, l, _, h => by
  cases l with
  | nil => simp
  | cons a l => exact absurd (h a (by simp)) (by omega)
 | n + 1, l, hn, h => by
  by_cases hm : n ∈ l
  ·have h1 := pigeon n (l.erase n) (hn.erase n) fun x hx => by
    have h2 := h x (List.mem_of_mem_erase hx)
    have h3 : x ≠ n := fun e => by subst e; exact (hn.not_mem_erase) hx
    omega
   rw [List.length_erase_of_mem hm] at h1
   omega
  ·have := pigeon n l hn fun x hx => by
    have h2 := h x hx
    have h3 : x ≠ n := fun e => hm (e ▸ hx)
    omega
   omega
theorem sets_lt {N : Nat} {todo : List (List Int)} (hn : todo.Nodup) (hs : ∀ s ∈ todo, s ≠ [] ∧ Shp N s) : todo.length < 2 ^ N := by
 have hp : 0 < 2 ^ N := Nat.pow_pos (by omega)
 have h := pigeon (2 ^ N) (0 :: todo.map code) (by
  refine List.nodup_cons.2 ⟨fun h => ?_, ?_⟩
  ·obtain ⟨s, h1, h2⟩ := List.mem_map.1 h
   have := code_pos (hs s h1).1
   omega
  ·unfold List.Nodup at hn ⊢
   rw [List.pairwise_map]
   exact hn.imp_of_mem fun {a b} ha hb hab e => hab (code_inj N a b (hs a ha).2 (hs b hb).2 e)) (fun x hx => by
  rcases List.mem_cons.1 hx with rfl | hx
  ·exact hp
  ·obtain ⟨s, h1, rfl⟩ := List.mem_map.1 hx
   exact code_lt N s (hs s h1).2)
 simp only [List.length_cons, List.length_map] at h
 omega
theorem cl_shp (l : List S_auto_state) (fr bk : Bool) (f : List Int) : Shp l.length (cl l fr bk f) := ⟨_, rfl⟩
end Go.Av.L
