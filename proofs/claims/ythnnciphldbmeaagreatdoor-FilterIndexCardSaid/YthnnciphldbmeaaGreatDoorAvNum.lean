/-
  Several texts in one.
-/
import Derived.Test.YthnnciphldbmeaaGreatDoorAvIn
import Derived.IntWalk
/-
  ABS, 26: functions without a body that the model knows: internal/bytealg.IndexByteString.
-/
section
namespace Go.Av
open Go.RowKit
set_option linter.unusedVariables false
def idxOf (s : List UInt8) (c : UInt8) : Int := match (List.range s.length).find? fun i => s[i]? == some c with | some i => (i : Int) | none => -1
def U5 (h : AH) : List AA → Option (AA × AH)
 | [.str s, .int .u8 c] => if 0 ≤ c ∧ c ≤ 255 then some (.int .i64 (idxOf s (UInt8.ofNat c.toNat)), h) else none
 | _ => none
theorem P6 {α : Type} {p q : α → Bool} : ∀ (l : List α), (∀ x ∈ l, p x = q x) → l.find? p = l.find? q
 | [], _ => rfl
 | x :: l, h => by rw [List.find?_cons, List.find?_cons, h x (by simp), P6 l fun y hy => h y (by simp [hy])]
theorem idx_eq (s : List UInt8) (c : UInt8) : ((List.range (⟨⟨s⟩⟩ : ByteArray).size).find? fun i => (⟨⟨s⟩⟩ : ByteArray)[i]! == c) = (List.range s.length).find? fun i => s[i]? == some c := by
 refine P6 _ fun i hi => ?_
 have hi : i < s.length := by have := List.mem_range.1 hi; exact this
 have : (⟨⟨s⟩⟩ : ByteArray)[i]! = s[i] := getElem!_pos (⟨⟨s⟩⟩ : ByteArray) i hi
 rw [this, List.getElem?_eq_getElem hi]
 rfl
def K6 (s : List UInt8) (c : Int) : Option Int := if 0 ≤ c ∧ c ≤ 255 then some (idxOf s (UInt8.ofNat c.toNat)) else none
end Go.Av
end
/-
  AV: plain tools for laws over models: numbers, loops, parts of strings and rows.
-/
section
namespace Go.Av
set_option linter.unusedVariables false
set_option linter.unusedSimpArgs false
theorem Ti {x : Int} (h1 : -9223372036854775808 ≤ x) (h2 : x ≤ 9223372036854775807) : IntKind.i64.wrap x = x := by rw [IntKind.wrap_i64]; omega
theorem BT {α : Type} (p : Prop) [Decidable p] (x y : Option α) : Aa (decide p) x y = if p then x else y := by
 by_cases h : p <;> simp [h]
theorem Uz {α β : Type} [DecidableEq β] (a b : β) (x y : Option α) : Aa (a != b) x y = if a = b then y else x := by
 by_cases h : a = b <;> simp [h]
 have : (a != b) = true := by simpa using h
 simp [this]
theorem V3 (b c : Bool) : Aa b (some true) (some c) = some (b || c) := by cases b <;> rfl
theorem NB (b c : Bool) : Aa b (some c) (some false) = some (b && c) := by cases b <;> rfl
theorem RQ {s : List UInt8} {i : Nat} {b : UInt8} (h : s[i]? = some b) : RD s (i : Int) = some (b.toNat : Int) := by
 unfold RD
 rw [if_pos (by omega), Int.toNat_natCast, h]; rfl
theorem Ey {σ ρ : Type} {step : σ → Option (σ ⊕ ρ)} {s s' : σ} (h : step s = some (.inl s')) : loop step s = loop step s' := by
 by_cases hx : ∃ r, loop step s' = some r
 ·obtain ⟨r, hr⟩ := hx
  rw [hr]; exact QF h hr
 ·cases hl : loop step s with
  | none =>
   cases hl' : loop step s' with
   | none => rfl
   | some r => exact absurd ⟨r, hl'⟩ hx
  | some r =>
   obtain ⟨n, hn⟩ := RA hl
   cases n with
   | zero => cases hn
   | succ n =>
    simp only [IC, h] at hn
    exact absurd ⟨r, Qg hn⟩ hx
def W {α : Type} (m : Option α) (Q : α → Prop) : Prop := ∃ r, m = some r ∧ Q r
theorem W.mono {α : Type} {m : Option α} {Q Q' : α → Prop} (w : W m Q) (h : ∀ r, Q r → Q' r) : W m Q' := by obtain ⟨r, e, q⟩ := w; exact ⟨r, e, h r q⟩
theorem W.ret {α : Type} {x : α} {Q : α → Prop} (h : Q x) : W (some x) Q := ⟨x, rfl, h⟩
theorem W.bind {α β : Type} {m : Option α} {k : α → Option β} {Q : β → Prop} (w : W m fun x => W (k x) Q) : W (m.bind k) Q := by obtain ⟨r, e, q⟩ := w; rw [e]; exact q
theorem W.loop {σ ρ : Type} {step : σ → Option (σ ⊕ ρ)} {s : σ} {Q : ρ → Prop} (inv : σ → Prop) (μ : σ → Nat) (hi : inv s)
  (hs : ∀ s, inv s → W (step s) (fun r => match r with | .inl s' => inv s' ∧ μ s' < μ s | .inr r => Q r)) : W (Av.loop step s) Q := by
 refine UM inv μ Q (fun s hi => ?_) s hi
 obtain ⟨r, e, q⟩ := hs s hi
 cases r with
 | inl s' => exact .inl ⟨s', e, q⟩
 | inr r => exact .inr ⟨r, e, q⟩
theorem W.eq {α : Type} {m : Option α} {x : α} (w : W m fun r => r = x) : m = some x := by obtain ⟨r, e, q⟩ := w; rw [e, q]
theorem Vr {n : Nat} {u : Int} (h : 0 ≤ u ∧ u ≤ n) : Sg n none (some u) = some (0, u.toNat) := by simp only [Sg]; rw [if_pos h]
theorem VE {n : Nat} {l : Int} (h : 0 ≤ l ∧ l ≤ n) : Sg n (some l) none = some (l.toNat, n) := by simp only [Sg]; rw [if_pos h]
theorem VP {n : Nat} {l u : Int} (h : 0 ≤ l ∧ l ≤ u ∧ u ≤ n) : Sg n (some l) (some u) = some (l.toNat, u.toNat) := by simp only [Sg]; rw [if_pos (by omega), if_pos (by omega)]
theorem drop_cons {α : Type} {l : List α} {i : Nat} (h : i < l.length) : l.drop i = l[i] :: l.drop (i + 1) := List.drop_eq_getElem_cons h
theorem UZ {α : Type} {l : List α} {k : Nat} {x : α} (h : l[k]? = some x) : l.take (k + 1) = l.take k ++ [x] := by
 rw [List.take_add_one, h]; rfl
theorem Md {k : Nat} (h : k < 4611686018427387904) : IntKind.i64.wrap ((k : Int) + 1) = ((k + 1 : Nat) : Int) := by rw [Ti (by omega) (by omega)]; omega
theorem Vu {α : Type} {l : List α} {i : Nat} {x : α} (h : l[i]? = some x) : Fc l (i : Int) = some x := by
 unfold Fc
 rw [if_pos (by omega), Int.toNat_natCast, h]
theorem Tx {s : List UInt8} {i : Nat} (h : i ≤ s.length) : Jx s (some (i : Int)) none = some (s.drop i) := by
 unfold Jx
 rw [VE ⟨by omega, by omega⟩]
 simp only [Option.map_some, Int.toNat_natCast]
 rw [List.take_of_length_le (by simp)]
theorem OL {s : List UInt8} {i : Nat} (h : i ≤ s.length) : Jx s none (some (i : Int)) = some (s.take i) := by
 unfold Jx
 rw [Vr ⟨by omega, by omega⟩]
 simp
theorem UH {s : List UInt8} {i j : Nat} (h : i ≤ j) (h2 : j ≤ s.length) : Jx s (some (i : Int)) (some (j : Int)) = some ((s.drop i).take (j - i)) := by
 unfold Jx
 rw [VP ⟨by omega, by omega, by omega⟩]
 simp
theorem YW {α : Type} {s : List α} {i : Nat} (h : i ≤ s.length) : Qb s (some (i : Int)) none = some (s.drop i) := by
 unfold Qb
 rw [VE ⟨by omega, by omega⟩]
 simp only [Option.map_some, Int.toNat_natCast]
 rw [List.take_of_length_le (by simp)]
theorem Qw {α : Type} {s : List α} {i : Nat} (h : i ≤ s.length) : Qb s none (some (i : Int)) = some (s.take i) := by
 unfold Qb
 rw [Vr ⟨by omega, by omega⟩]
 simp
theorem La {b n : Nat} (h : n ≤ 1099511627776) (h2 : n * b ≤ 1099511627776) : Nd b n = true := decide_eq_true ⟨h, h2⟩
theorem W.list {α σ τ ρ : Type} {step : τ → Option (τ ⊕ ρ)} {l : List α} {Q : ρ → Prop} (enc : σ → Nat → τ) (P : σ → Nat → Prop)
  (hend : ∀ s, P s l.length → W (step (enc s l.length)) fun o => match o with | .inl _ => False | .inr r => Q r)
  (hstep : ∀ s i (hi : i < l.length), P s i → W (step (enc s i)) fun o => match o with | .inl t => ∃ s', t = enc s' (i + 1) ∧ P s' (i + 1) | .inr r => Q r) (s : σ) (h0 : P s 0) : W (Av.loop step (enc s 0)) Q := by
 have key : ∀ (k i : Nat) (s : σ), i + k = l.length → P s i → W (Av.loop step (enc s i)) Q := by
  intro k
  induction k with
  | zero =>
   intro i s hi hp
   obtain rfl : i = l.length := by omega
   obtain ⟨o, e, q⟩ := hend s hp
   cases o with
   | inl t => exact q.elim
   | inr r => exact ⟨r, CJ e, q⟩
  | succ k ih =>
   intro i s hi hp
   obtain ⟨o, e, q⟩ := hstep s i (by omega) hp
   cases o with
   | inl t =>
    obtain ⟨s', rfl, hp'⟩ := q
    rw [Ey e]
    exact ih (i + 1) s' (by omega) hp'
   | inr r => exact ⟨r, CJ e, q⟩
 exact key l.length 0 s (by omega) h0
theorem Eh {α : Type} {l : List α} {i : Nat} (h : i < l.length) : Fc l (i : Int) = some l[i] := Vu (List.getElem?_eq_getElem h)
theorem ON {l : List UInt8} {i : Nat} (h : i < l.length) : RD l (i : Int) = some (l[i].toNat : Int) := RQ (List.getElem?_eq_getElem h)
end Go.Av
end
