/-
  Several texts in one.
-/
import Derived.Test.YtdbkpibbjnhmgaaDoorAvIn
import Derived.IntWalk
/-
 A part.
-/
section
namespace Go.Av
open Go.RowKit
set_option linter.unusedVariables false
def idxOf (s : List UInt8) (c : UInt8) : Int := match (List.range s.length).find? fun i => s[i]? == some c with | some i => (i : Int) | none => -1
def VZ (h : AB) : List AA → Option (AA × AB)
 | [.str s, .int .u8 c] => if 0 ≤ c ∧ c ≤ 255 then some (.int .i64 (idxOf s (UInt8.ofNat c.toNat)), h) else none
 | _ => none
theorem M1 {α : Type} {p q : α → Bool} : ∀ (l : List α), (∀ x ∈ l, p x = q x) → l.find? p = l.find? q
 | [], _ => rfl
 | x :: l, h => by rw [List.find?_cons, List.find?_cons, h x (by simp), M1 l fun y hy => h y (by simp [hy])]
theorem idx_eq (s : List UInt8) (c : UInt8) : ((List.range (⟨⟨s⟩⟩ : ByteArray).size).find? fun i => (⟨⟨s⟩⟩ : ByteArray)[i]! == c) = (List.range s.length).find? fun i => s[i]? == some c := by
 refine M1 _ fun i hi => ?_
 have hi : i < s.length := by have := List.mem_range.1 hi; exact this
 have : (⟨⟨s⟩⟩ : ByteArray)[i]! = s[i] := getElem!_pos (⟨⟨s⟩⟩ : ByteArray) i hi
 rw [this, List.getElem?_eq_getElem hi]
 rfl
end Go.Av
end
/-
 A part.
-/
section
namespace Go.Av
set_option linter.unusedVariables false
set_option linter.unusedSimpArgs false
theorem V2 {x : Int} (h1 : -9223372036854775808 ≤ x) (h2 : x ≤ 9223372036854775807) : IntKind.i64.wrap x = x := by rw [IntKind.wrap_i64]; omega
theorem AR {α : Type} (p : Prop) [Decidable p] (x y : Option α) : BM (decide p) x y = if p then x else y := by
 by_cases h : p <;> simp [h]
theorem TQ {α β : Type} [DecidableEq β] (a b : β) (x y : Option α) : BM (a != b) x y = if a = b then y else x := by
 by_cases h : a = b <;> simp [h]
 have : (a != b) = true := by simpa using h
 simp [this]
theorem UL {s : List UInt8} {i : Nat} {b : UInt8} (h : s[i]? = some b) : Vx s (i : Int) = some (b.toNat : Int) := by
 unfold Vx
 rw [if_pos (by omega), Int.toNat_natCast, h]; rfl
theorem Cx {σ ρ : Type} {step : σ → Option (σ ⊕ ρ)} {s s' : σ} (h : step s = some (.inl s')) : loop step s = loop step s' := by
 by_cases hx : ∃ r, loop step s' = some r
 ·obtain ⟨r, hr⟩ := hx
  rw [hr]; exact Mp h hr
 ·cases hl : loop step s with
  | none =>
   cases hl' : loop step s' with
   | none => rfl
   | some r => exact absurd ⟨r, hl'⟩ hx
  | some r =>
   obtain ⟨n, hn⟩ := Ni hl
   cases n with
   | zero => cases hn
   | succ n =>
    simp only [FK, h] at hn
    exact absurd ⟨r, NL hn⟩ hx
def W {α : Type} (m : Option α) (Q : α → Prop) : Prop := ∃ r, m = some r ∧ Q r
theorem W.mono {α : Type} {m : Option α} {Q Q' : α → Prop} (w : W m Q) (h : ∀ r, Q r → Q' r) : W m Q' := by obtain ⟨r, e, q⟩ := w; exact ⟨r, e, h r q⟩
theorem W.ret {α : Type} {x : α} {Q : α → Prop} (h : Q x) : W (some x) Q := ⟨x, rfl, h⟩
theorem W.bind {α β : Type} {m : Option α} {k : α → Option β} {Q : β → Prop} (w : W m fun x => W (k x) Q) : W (m.bind k) Q := by obtain ⟨r, e, q⟩ := w; rw [e]; exact q
theorem W.loop {σ ρ : Type} {step : σ → Option (σ ⊕ ρ)} {s : σ} {Q : ρ → Prop} (inv : σ → Prop) (μ : σ → Nat) (hi : inv s)
  (hs : ∀ s, inv s → W (step s) (fun r => match r with | .inl s' => inv s' ∧ μ s' < μ s | .inr r => Q r)) : W (Av.loop step s) Q := by
 refine RJ inv μ Q (fun s hi => ?_) s hi
 obtain ⟨r, e, q⟩ := hs s hi
 cases r with
 | inl s' => exact .inl ⟨s', e, q⟩
 | inr r => exact .inr ⟨r, e, q⟩
theorem W.eq {α : Type} {m : Option α} {x : α} (w : W m fun r => r = x) : m = some x := by obtain ⟨r, e, q⟩ := w; rw [e, q]
theorem S2 {n : Nat} {u : Int} (h : 0 ≤ u ∧ u ≤ n) : NZ n none (some u) = some (0, u.toNat) := by simp only [NZ]; rw [if_pos h]
theorem R3 {n : Nat} {l : Int} (h : 0 ≤ l ∧ l ≤ n) : NZ n (some l) none = some (l.toNat, n) := by simp only [NZ]; rw [if_pos h]
theorem R5 {n : Nat} {l u : Int} (h : 0 ≤ l ∧ l ≤ u ∧ u ≤ n) : NZ n (some l) (some u) = some (l.toNat, u.toNat) := by simp only [NZ]; rw [if_pos (by omega), if_pos (by omega)]
theorem drop_cons {α : Type} {l : List α} {i : Nat} (h : i < l.length) : l.drop i = l[i] :: l.drop (i + 1) := List.drop_eq_getElem_cons h
theorem CH {α : Type} {l : List α} {k : Nat} {x : α} (h : l[k]? = some x) : l.take (k + 1) = l.take k ++ [x] := by
 rw [List.take_add_one, h]; rfl
theorem Eh {k : Nat} (h : k < 4611686018427387904) : IntKind.i64.wrap ((k : Int) + 1) = ((k + 1 : Nat) : Int) := by rw [V2 (by omega) (by omega)]; omega
theorem UE {α : Type} {l : List α} {i : Nat} {x : α} (h : l[i]? = some x) : Fv l (i : Int) = some x := by
 unfold Fv
 rw [if_pos (by omega), Int.toNat_natCast, h]
theorem UT {s : List UInt8} {i : Nat} (h : i ≤ s.length) : L1 s (some (i : Int)) none = some (s.drop i) := by
 unfold L1
 rw [R3 ⟨by omega, by omega⟩]
 simp only [Option.map_some, Int.toNat_natCast]
 rw [List.take_of_length_le (by simp)]
theorem UH {s : List UInt8} {i : Nat} (h : i ≤ s.length) : L1 s none (some (i : Int)) = some (s.take i) := by
 unfold L1
 rw [S2 ⟨by omega, by omega⟩]
 simp
theorem RB {s : List UInt8} {i j : Nat} (h : i ≤ j) (h2 : j ≤ s.length) : L1 s (some (i : Int)) (some (j : Int)) = some ((s.drop i).take (j - i)) := by
 unfold L1
 rw [R5 ⟨by omega, by omega, by omega⟩]
 simp
theorem W6 {α : Type} {s : List α} {i : Nat} (h : i ≤ s.length) : Jg s (some (i : Int)) none = some (s.drop i) := by
 unfold Jg
 rw [R3 ⟨by omega, by omega⟩]
 simp only [Option.map_some, Int.toNat_natCast]
 rw [List.take_of_length_le (by simp)]
theorem RA {α : Type} {s : List α} {i : Nat} (h : i ≤ s.length) : Jg s none (some (i : Int)) = some (s.take i) := by
 unfold Jg
 rw [S2 ⟨by omega, by omega⟩]
 simp
theorem FB {b n : Nat} (h : n ≤ 1099511627776) (h2 : n * b ≤ 1099511627776) : QY b n = true := decide_eq_true ⟨h, h2⟩
theorem W.list {α σ τ ρ : Type} {step : τ → Option (τ ⊕ ρ)} {l : List α} {Q : ρ → Prop} (enc : σ → Nat → τ) (P : σ → Nat → Prop)
  (hend : ∀ s, P s l.length → W (step (enc s l.length)) fun o => match o with | .inl _ => False | .inr r => Q r)
  (hstep : ∀ s i (hi : i < l.length), P s i → W (step (enc s i)) fun o => match o with | .inl t => ∃ s', t = enc s' (i + 1) ∧ P s' (i + 1) | .inr r => Q r) (s : σ) (h0 : P s 0) : W (Av.loop step (enc s 0)) Q := by
 have key : ∀ (k i : Nat) (s : σ), i + k = l.length → P s i → W (Av.loop step (enc s i)) Q := by
  intro k
  induction k with
  | zero =>
   intro i s hi hp
   obtain rfl : i = l.length := by omega
   obtain ⟨o, e, q⟩ := hend s hp
   cases o with
   | inl t => exact q.elim
   | inr r => exact ⟨r, Ba e, q⟩
  | succ k ih =>
   intro i s hi hp
   obtain ⟨o, e, q⟩ := hstep s i (by omega) hp
   cases o with
   | inl t =>
    obtain ⟨s', rfl, hp'⟩ := q
    rw [Cx e]
    exact ih (i + 1) s' (by omega) hp'
   | inr r => exact ⟨r, Ba e, q⟩
 exact key l.length 0 s (by omega) h0
theorem Br {α : Type} {l : List α} {i : Nat} (h : i < l.length) : Fv l (i : Int) = some l[i] := UE (List.getElem?_eq_getElem h)
theorem QQ {l : List UInt8} {i : Nat} (h : i < l.length) : Vx l (i : Int) = some (l[i].toNat : Int) := UL (List.getElem?_eq_getElem h)
end Go.Av
end
