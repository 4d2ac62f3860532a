/-
 A part.
-/
import Derived.Test.YtdbkpibbjnhmgaaDoorAvIn
import Derived.Test.YtdbkpibbjnhmgaaDoorAvExt
import Derived.IntWalk
namespace Go.Av
set_option linter.unusedVariables false
set_option linter.unusedSimpArgs false
theorem T0 {x : Int} (h1 : -9223372036854775808 ≤ x) (h2 : x ≤ 9223372036854775807) : IntKind.i64.wrap x = x := by rw [IntKind.wrap_i64]; omega
theorem AU {α : Type} (p : Prop) [Decidable p] (x y : Option α) : BG (decide p) x y = if p then x else y := by
 by_cases h : p <;> simp [h]
theorem Ry {α β : Type} [DecidableEq β] (a b : β) (x y : Option α) : BG (a == b) x y = if a = b then x else y := by
 by_cases h : a = b <;> simp [h]
 have : (a == b) = false := by simpa using h
 simp [this]
theorem Q9 {α β : Type} [DecidableEq β] (a b : β) (x y : Option α) : BG (a != b) x y = if a = b then y else x := by
 by_cases h : a = b <;> simp [h]
 have : (a != b) = true := by simpa using h
 simp [this]
theorem SN {s : List UInt8} {i : Nat} {b : UInt8} (h : s[i]? = some b) : UY s (i : Int) = some (b.toNat : Int) := by
 unfold UY
 rw [if_pos (by omega), Int.toNat_natCast, h]; rfl
theorem Dd {σ ρ : Type} {step : σ → Option (σ ⊕ ρ)} {s s' : σ} (h : step s = some (.inl s')) : loop step s = loop step s' := by
 by_cases hx : ∃ r, loop step s' = some r
 ·obtain ⟨r, hr⟩ := hx
  rw [hr]; exact L2 h hr
 ·cases hl : loop step s with
  | none =>
   cases hl' : loop step s' with
   | none => rfl
   | some r => exact absurd ⟨r, hl'⟩ hx
  | some r =>
   obtain ⟨n, hn⟩ := MA hl
   cases n with
   | zero => cases hn
   | succ n =>
    simp only [Ez, h] at hn
    exact absurd ⟨r, Mp hn⟩ hx
def W {α : Type} (m : Option α) (Q : α → Prop) : Prop := ∃ r, m = some r ∧ Q r
theorem W.mono {α : Type} {m : Option α} {Q Q' : α → Prop} (w : W m Q) (h : ∀ r, Q r → Q' r) : W m Q' := by obtain ⟨r, e, q⟩ := w; exact ⟨r, e, h r q⟩
theorem W.ret {α : Type} {x : α} {Q : α → Prop} (h : Q x) : W (some x) Q := ⟨x, rfl, h⟩
theorem W.bind {α β : Type} {m : Option α} {k : α → Option β} {Q : β → Prop} (w : W m fun x => W (k x) Q) : W (m.bind k) Q := by obtain ⟨r, e, q⟩ := w; rw [e]; exact q
theorem W.loop {σ ρ : Type} {step : σ → Option (σ ⊕ ρ)} {s : σ} {Q : ρ → Prop} (inv : σ → Prop) (μ : σ → Nat) (hi : inv s)
  (hs : ∀ s, inv s → W (step s) (fun r => match r with | .inl s' => inv s' ∧ μ s' < μ s | .inr r => Q r)) : W (Av.loop step s) Q := by
 refine QL inv μ Q (fun s hi => ?_) s hi
 obtain ⟨r, e, q⟩ := hs s hi
 cases r with
 | inl s' => exact .inl ⟨s', e, q⟩
 | inr r => exact .inr ⟨r, e, q⟩
theorem W.eq {α : Type} {m : Option α} {x : α} (w : W m fun r => r = x) : m = some x := by obtain ⟨r, e, q⟩ := w; rw [e, q]
theorem RR {n : Nat} {u : Int} (h : 0 ≤ u ∧ u ≤ n) : ML n none (some u) = some (0, u.toNat) := by simp only [ML]; rw [if_pos h]
theorem Rk {n : Nat} {l : Int} (h : 0 ≤ l ∧ l ≤ n) : ML n (some l) none = some (l.toNat, n) := by simp only [ML]; rw [if_pos h]
theorem Q4 {n : Nat} {l u : Int} (h : 0 ≤ l ∧ l ≤ u ∧ u ≤ n) : ML n (some l) (some u) = some (l.toNat, u.toNat) := by simp only [ML]; rw [if_pos (by omega), if_pos (by omega)]
theorem drop_cons {α : Type} {l : List α} {i : Nat} (h : i < l.length) : l.drop i = l[i] :: l.drop (i + 1) := List.drop_eq_getElem_cons h
theorem CL {α : Type} {l : List α} {k : Nat} {x : α} (h : l[k]? = some x) : l.take (k + 1) = l.take k ++ [x] := by
 rw [List.take_add_one, h]; rfl
theorem E6 {k : Nat} (h : k < 4611686018427387904) : IntKind.i64.wrap ((k : Int) + 1) = ((k + 1 : Nat) : Int) := by rw [T0 (by omega) (by omega)]; omega
theorem SL {α : Type} {l : List α} {i : Nat} {x : α} (h : l[i]? = some x) : F5 l (i : Int) = some x := by
 unfold F5
 rw [if_pos (by omega), Int.toNat_natCast, h]
theorem SH {s : List UInt8} {i : Nat} (h : i ≤ s.length) : Kt s (some (i : Int)) none = some (s.drop i) := by
 unfold Kt
 rw [Rk ⟨by omega, by omega⟩]
 simp only [Option.map_some, Int.toNat_natCast]
 rw [List.take_of_length_le (by simp)]
theorem SV {s : List UInt8} {i : Nat} (h : i ≤ s.length) : Kt s none (some (i : Int)) = some (s.take i) := by
 unfold Kt
 rw [RR ⟨by omega, by omega⟩]
 simp
theorem P2 {s : List UInt8} {i j : Nat} (h : i ≤ j) (h2 : j ≤ s.length) : Kt s (some (i : Int)) (some (j : Int)) = some ((s.drop i).take (j - i)) := by
 unfold Kt
 rw [Q4 ⟨by omega, by omega, by omega⟩]
 simp
theorem VM {α : Type} {s : List α} {i : Nat} (h : i ≤ s.length) : IY s (some (i : Int)) none = some (s.drop i) := by
 unfold IY
 rw [Rk ⟨by omega, by omega⟩]
 simp only [Option.map_some, Int.toNat_natCast]
 rw [List.take_of_length_le (by simp)]
theorem PD {α : Type} {s : List α} {i : Nat} (h : i ≤ s.length) : IY s none (some (i : Int)) = some (s.take i) := by
 unfold IY
 rw [RR ⟨by omega, by omega⟩]
 simp
theorem Gi {b n : Nat} (h : n ≤ 1099511627776) (h2 : n * b ≤ 1099511627776) : QZ b n = true := decide_eq_true ⟨h, h2⟩
theorem W.list {α σ τ ρ : Type} {step : τ → Option (τ ⊕ ρ)} {l : List α} {Q : ρ → Prop} (enc : σ → Nat → τ) (P : σ → Nat → Prop)
  (hend : ∀ s, P s l.length → W (step (enc s l.length)) fun o => match o with | .inl _ => False | .inr r => Q r)
  (hstep : ∀ s i (hi : i < l.length), P s i → W (step (enc s i)) fun o => match o with | .inl t => ∃ s', t = enc s' (i + 1) ∧ P s' (i + 1) | .inr r => Q r) (s : σ) (h0 : P s 0) : W (Av.loop step (enc s 0)) Q := by
 have key : ∀ (k i : Nat) (s : σ), i + k = l.length → P s i → W (Av.loop step (enc s i)) Q := by
  intro k
  induction k with
  | zero =>
   intro i s hi hp
   obtain rfl : i = l.length := by omega
   obtain ⟨o, e, q⟩ := hend s hp
   cases o with
   | inl t => exact q.elim
   | inr r => exact ⟨r, Bl e, q⟩
  | succ k ih =>
   intro i s hi hp
   obtain ⟨o, e, q⟩ := hstep s i (by omega) hp
   cases o with
   | inl t =>
    obtain ⟨s', rfl, hp'⟩ := q
    rw [Dd e]
    exact ih (i + 1) s' (by omega) hp'
   | inr r => exact ⟨r, Bl e, q⟩
 exact key l.length 0 s (by omega) h0
theorem CD {α : Type} {l : List α} {i : Nat} (h : i < l.length) : F5 l (i : Int) = some l[i] := SL (List.getElem?_eq_getElem h)
theorem PG {l : List UInt8} {i : Nat} (h : i < l.length) : UY l (i : Int) = some (l[i].toNat : Int) := SN (List.getElem?_eq_getElem h)
end Go.Av
