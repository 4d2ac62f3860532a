/-
  AV: plain tools for laws over models: numbers, loops, parts of strings and rows.
-/
import Derived.Test.YtdpebdaplhfbjaaGreatDoorAvIn
import Derived.Test.YtdpebdaplhfbjaaGreatDoorAvExt
import Derived.IntWalk
namespace Go.Av
set_option linter.unusedVariables false
set_option linter.unusedSimpArgs false
theorem w64 {x : Int} (h1 : -9223372036854775808 ≤ x) (h2 : x ≤ 9223372036854775807) : IntKind.i64.wrap x = x := by rw [IntKind.wrap_i64]; omega
theorem wu8 {x : Int} (h1 : 0 ≤ x) (h2 : x ≤ 255) : IntKind.u8.wrap x = x := by rw [IntKind.wrap_u8]; omega
theorem iteB_or (b c : Bool) : iteB b (some true) (some c) = some (b || c) := by cases b <;> rfl
theorem ixS_nat {s : List UInt8} {i : Nat} {b : UInt8} (h : s[i]? = some b) : ixS s (i : Int) = some (b.toNat : Int) := by
 unfold ixS
 rw [if_pos (by omega), Int.toNat_natCast, h]; rfl
theorem loop_step {σ ρ : Type} {step : σ → Option (σ ⊕ ρ)} {s s' : σ} (h : step s = some (.inl s')) : loop step s = loop step s' := by
 by_cases hx : ∃ r, loop step s' = some r
 ·obtain ⟨r, hr⟩ := hx
  rw [hr]; exact loop_next h hr
 ·cases hl : loop step s with
  | none =>
   cases hl' : loop step s' with
   | none => rfl
   | some r => exact absurd ⟨r, hl'⟩ hx
  | some r =>
   obtain ⟨n, hn⟩ := loop_to hl
   cases n with
   | zero => cases hn
   | succ n =>
    simp only [loopN, h] at hn
    exact absurd ⟨r, loop_of hn⟩ hx
theorem loop_end {σ ρ : Type} {step : σ → Option (σ ⊕ ρ)} {s : σ} {r : ρ} (h : step s = some (.inr r)) : loop step s = some r := loop_done h
def W {α : Type} (m : Option α) (Q : α → Prop) : Prop := ∃ r, m = some r ∧ Q r
theorem W.mono {α : Type} {m : Option α} {Q Q' : α → Prop} (w : W m Q) (h : ∀ r, Q r → Q' r) : W m Q' := by obtain ⟨r, e, q⟩ := w; exact ⟨r, e, h r q⟩
theorem W.ret {α : Type} {x : α} {Q : α → Prop} (h : Q x) : W (some x) Q := ⟨x, rfl, h⟩
theorem W.bind {α β : Type} {m : Option α} {k : α → Option β} {Q : β → Prop} (w : W m fun x => W (k x) Q) : W (m.bind k) Q := by obtain ⟨r, e, q⟩ := w; rw [e]; exact q
theorem W.ite {α : Type} {b : Bool} {x y : Option α} {Q : α → Prop} (h1 : b = true → W x Q) (h2 : b = false → W y Q) : W (iteB b x y) Q := by cases b; exact h2 rfl; exact h1 rfl
theorem W.iteP {α : Type} {p : Prop} [Decidable p] {x y : Option α} {Q : α → Prop} (h1 : p → W x Q) (h2 : ¬ p → W y Q) : W (iteB (decide p) x y) Q := by by_cases h : p <;> simp [h, h1, h2]
theorem W.need {α : Type} {b : Bool} {x : Option α} {Q : α → Prop} (h1 : b = true) (h2 : W x Q) : W (need b x) Q := by rw [h1]; exact h2
theorem W.loop {σ ρ : Type} {step : σ → Option (σ ⊕ ρ)} {s : σ} {Q : ρ → Prop} (inv : σ → Prop) (μ : σ → Nat) (hi : inv s)
  (hs : ∀ s, inv s → W (step s) (fun r => match r with | .inl s' => inv s' ∧ μ s' < μ s | .inr r => Q r)) : W (Av.loop step s) Q := by
 refine loop_rule inv μ Q (fun s hi => ?_) s hi
 obtain ⟨r, e, q⟩ := hs s hi
 cases r with
 | inl s' => exact .inl ⟨s', e, q⟩
 | inr r => exact .inr ⟨r, e, q⟩
theorem W.eq {α : Type} {m : Option α} {x : α} (w : W m fun r => r = x) : m = some x := by obtain ⟨r, e, q⟩ := w; rw [e, q]
theorem bnd_hi {n : Nat} {u : Int} (h : 0 ≤ u ∧ u ≤ n) : bnd n none (some u) = some (0, u.toNat) := by simp only [bnd]; rw [if_pos h]
theorem bnd_lo {n : Nat} {l : Int} (h : 0 ≤ l ∧ l ≤ n) : bnd n (some l) none = some (l.toNat, n) := by simp only [bnd]; rw [if_pos h]
theorem drop_cons {α : Type} {l : List α} {i : Nat} (h : i < l.length) : l.drop i = l[i] :: l.drop (i + 1) := List.drop_eq_getElem_cons h
theorem take_snoc {α : Type} {l : List α} {k : Nat} {x : α} (h : l[k]? = some x) : l.take (k + 1) = l.take k ++ [x] := by
 rw [List.take_add_one, h]; rfl
theorem ek64 {k : Nat} (h : k < 4611686018427387904) : IntKind.i64.wrap ((k : Int) + 1) = ((k + 1 : Nat) : Int) := by rw [w64 (by omega) (by omega)]; omega
theorem ixV_nat {α : Type} {l : List α} {i : Nat} {x : α} (h : l[i]? = some x) : ixV l (i : Int) = some x := by
 unfold ixV
 rw [if_pos (by omega), Int.toNat_natCast, h]
theorem subS_lo {s : List UInt8} {i : Nat} (h : i ≤ s.length) : subS s (some (i : Int)) none = some (s.drop i) := by
 unfold subS
 rw [bnd_lo ⟨by omega, by omega⟩]
 simp only [Option.map_some, Int.toNat_natCast]
 rw [List.take_of_length_le (by simp)]
theorem subS_hi {s : List UInt8} {i : Nat} (h : i ≤ s.length) : subS s none (some (i : Int)) = some (s.take i) := by
 unfold subS
 rw [bnd_hi ⟨by omega, by omega⟩]
 simp
theorem okN_of {b n : Nat} (h : n ≤ 1099511627776) (h2 : n * b ≤ 1099511627776) : okN b n = true := decide_eq_true ⟨h, h2⟩
theorem W.list {α σ τ ρ : Type} {step : τ → Option (τ ⊕ ρ)} {l : List α} {Q : ρ → Prop} (enc : σ → Nat → τ) (P : σ → Nat → Prop)
  (hend : ∀ s, P s l.length → W (step (enc s l.length)) fun o => match o with | .inl _ => False | .inr r => Q r)
  (hstep : ∀ s i (hi : i < l.length), P s i → W (step (enc s i)) fun o => match o with | .inl t => ∃ s', t = enc s' (i + 1) ∧ P s' (i + 1) | .inr r => Q r) (s : σ) (h0 : P s 0) : W (Av.loop step (enc s 0)) Q := by
 have key : ∀ (k i : Nat) (s : σ), i + k = l.length → P s i → W (Av.loop step (enc s i)) Q := by
  intro k
  induction k with
  | zero =>
   intro i s hi hp
   obtain rfl : i = l.length := by omega
   obtain ⟨o, e, q⟩ := hend s hp
   cases o with
   | inl t => exact q.elim
   | inr r => exact ⟨r, loop_done e, q⟩
  | succ k ih =>
   intro i s hi hp
   obtain ⟨o, e, q⟩ := hstep s i (by omega) hp
   cases o with
   | inl t =>
    obtain ⟨s', rfl, hp'⟩ := q
    rw [loop_step e]
    exact ih (i + 1) s' (by omega) hp'
   | inr r => exact ⟨r, loop_done e, q⟩
 exact key l.length 0 s (by omega) h0
theorem ixV_get {α : Type} {l : List α} {i : Nat} (h : i < l.length) : ixV l (i : Int) = some l[i] := ixV_nat (List.getElem?_eq_getElem h)
theorem ixS_get {l : List UInt8} {i : Nat} (h : i < l.length) : ixS l (i : Int) = some (l[i].toNat : Int) := ixS_nat (List.getElem?_eq_getElem h)
theorem ixS_head {b : UInt8} {t : List UInt8} : ixS (b :: t) 0 = some (b.toNat : Int) := rfl
theorem byte_eq {b : UInt8} {n : Nat} (hn : n < 256) : ((b.toNat : Int) == (n : Int)) = (b == UInt8.ofNat n) := by
 rw [Bool.eq_iff_iff, beq_iff_eq, beq_iff_eq, ← UInt8.toNat_inj, UInt8.toNat_ofNat_of_lt' (by exact hn)]
 omega
theorem idxOf_nil (c : UInt8) : idxOf [] c = -1 := rfl
theorem idxOf_cons (b : UInt8) (t : List UInt8) (c : UInt8) : idxOf (b :: t) c = if b = c then 0 else if idxOf t c < 0 then -1 else idxOf t c + 1 := by
 unfold idxOf
 rw [List.length_cons, List.range_succ_eq_map, List.find?_cons]
 by_cases h : b = c
 ·simp [h]
 ·have h' : ((b :: t)[0]? == some c) = false := by simpa using h
  rw [h', if_neg h, List.find?_map]
  have e : ((fun i => (b :: t)[i]? == some c) ∘ Nat.succ) = fun i => t[i]? == some c := by
   funext i; simp
  rw [e]
  cases hf : List.find? (fun i => t[i]? == some c) (List.range t.length) with
  | none => simp
  | some i => simp; omega
theorem idxOf_mem (s : List UInt8) (c : UInt8) : 0 ≤ idxOf s c ↔ c ∈ s := by
 induction s with
 | nil => rw [idxOf_nil]; simp
 | cons b t ih =>
  rw [idxOf_cons, List.mem_cons]
  by_cases hb : b = c
  ·simp [hb]
  ·rw [if_neg hb]
   have hb' : ¬ c = b := fun h => hb h.symm
   simp only [hb', false_or, ← ih]
   split <;> omega
end Go.Av
