/-
  Several texts in one.
-/
import Derived.Test.YthnnciphldbmeaaGreatDoorAvIn
import Derived.IntWalk
/-
  ABS, 26: functions without a body that the model knows: internal/bytealg.IndexByteString.
-/
section
namespace Go.Av
open Go.RowKit
set_option linter.unusedVariables false
def idxOf (s : List UInt8) (c : UInt8) : Int := match (List.range s.length).find? fun i => s[i]? == some c with | some i => (i : Int) | none => -1
def UL (h : AH) : List AA → Option (AA × AH)
 | [.str s, .int .u8 c] => if 0 ≤ c ∧ c ≤ 255 then some (.int .i64 (idxOf s (UInt8.ofNat c.toNat)), h) else none
 | _ => none
theorem Pa {α : Type} {p q : α → Bool} : ∀ (l : List α), (∀ x ∈ l, p x = q x) → l.find? p = l.find? q
 | [], _ => rfl
 | x :: l, h => by rw [List.find?_cons, List.find?_cons, h x (by simp), Pa l fun y hy => h y (by simp [hy])]
theorem idx_eq (s : List UInt8) (c : UInt8) : ((List.range (⟨⟨s⟩⟩ : ByteArray).size).find? fun i => (⟨⟨s⟩⟩ : ByteArray)[i]! == c) = (List.range s.length).find? fun i => s[i]? == some c := by
 refine Pa _ fun i hi => ?_
 have hi : i < s.length := by have := List.mem_range.1 hi; exact this
 have : (⟨⟨s⟩⟩ : ByteArray)[i]! = s[i] := getElem!_pos (⟨⟨s⟩⟩ : ByteArray) i hi
 rw [this, List.getElem?_eq_getElem hi]
 rfl
def I9 (s : List UInt8) (c : Int) : Option Int := if 0 ≤ c ∧ c ≤ 255 then some (idxOf s (UInt8.ofNat c.toNat)) else none
end Go.Av
end
/-
  AV: plain tools for laws over models: numbers, loops, parts of strings and rows.
-/
section
namespace Go.Av
set_option linter.unusedVariables false
set_option linter.unusedSimpArgs false
theorem Vt {x : Int} (h1 : -9223372036854775808 ≤ x) (h2 : x ≤ 9223372036854775807) : IntKind.i64.wrap x = x := by rw [IntKind.wrap_i64]; omega
theorem CP {α : Type} (p : Prop) [Decidable p] (x y : Option α) : Ae (decide p) x y = if p then x else y := by
 by_cases h : p <;> simp [h]
theorem US {α β : Type} [DecidableEq β] (a b : β) (x y : Option α) : Ae (a != b) x y = if a = b then y else x := by
 by_cases h : a = b <;> simp [h]
 have : (a != b) = true := by simpa using h
 simp [this]
theorem LG (b c : Bool) : Ae b (some true) (some c) = some (b || c) := by cases b <;> rfl
theorem OR (b c : Bool) : Ae b (some c) (some false) = some (b && c) := by cases b <;> rfl
theorem U3 {s : List UInt8} {i : Nat} {b : UInt8} (h : s[i]? = some b) : Nb s (i : Int) = some (b.toNat : Int) := by
 unfold Nb
 rw [if_pos (by omega), Int.toNat_natCast, h]; rfl
theorem Fb {σ ρ : Type} {step : σ → Option (σ ⊕ ρ)} {s s' : σ} (h : step s = some (.inl s')) : loop step s = loop step s' := by
 by_cases hx : ∃ r, loop step s' = some r
 ·obtain ⟨r, hr⟩ := hx
  rw [hr]; exact S2 h hr
 ·cases hl : loop step s with
  | none =>
   cases hl' : loop step s' with
   | none => rfl
   | some r => exact absurd ⟨r, hl'⟩ hx
  | some r =>
   obtain ⟨n, hn⟩ := Py hl
   cases n with
   | zero => cases hn
   | succ n =>
    simp only [IF, h] at hn
    exact absurd ⟨r, QC hn⟩ hx
def W {α : Type} (m : Option α) (Q : α → Prop) : Prop := ∃ r, m = some r ∧ Q r
theorem WS {n : Nat} {u : Int} (h : 0 ≤ u ∧ u ≤ n) : TH n none (some u) = some (0, u.toNat) := by simp only [TH]; rw [if_pos h]
theorem WG {n : Nat} {l : Int} (h : 0 ≤ l ∧ l ≤ n) : TH n (some l) none = some (l.toNat, n) := by simp only [TH]; rw [if_pos h]
theorem Rw {k : Nat} (h : k < 4611686018427387904) : IntKind.i64.wrap ((k : Int) + 1) = ((k + 1 : Nat) : Int) := by rw [Vt (by omega) (by omega)]; omega
theorem U7 {α : Type} {l : List α} {i : Nat} {x : α} (h : l[i]? = some x) : HR l (i : Int) = some x := by
 unfold HR
 rw [if_pos (by omega), Int.toNat_natCast, h]
theorem VK {s : List UInt8} {i : Nat} (h : i ≤ s.length) : LP s (some (i : Int)) none = some (s.drop i) := by
 unfold LP
 rw [WG ⟨by omega, by omega⟩]
 simp only [Option.map_some, Int.toNat_natCast]
 rw [List.take_of_length_le (by simp)]
theorem Sc {s : List UInt8} {i : Nat} (h : i ≤ s.length) : LP s none (some (i : Int)) = some (s.take i) := by
 unfold LP
 rw [WS ⟨by omega, by omega⟩]
 simp
theorem Ri {b n : Nat} (h : n ≤ 1099511627776) (h2 : n * b ≤ 1099511627776) : OU b n = true := decide_eq_true ⟨h, h2⟩
theorem Gv {α : Type} {l : List α} {i : Nat} (h : i < l.length) : HR l (i : Int) = some l[i] := U7 (List.getElem?_eq_getElem h)
theorem P1 {l : List UInt8} {i : Nat} (h : i < l.length) : Nb l (i : Int) = some (l[i].toNat : Int) := U3 (List.getElem?_eq_getElem h)
end Go.Av
end
