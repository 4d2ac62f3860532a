/-
  Several texts in one.
-/
import Derived.Test.YtlljeoogceblmaaGreatDoorAvIn
import Derived.IntWalk
import Derived.Test.YtlljeoogceblmaaGreatDoorAvTy
/-
 A part.
-/
section
namespace Go.Av
open Go.RowKit
set_option linter.unusedVariables false
def idxOf (s : List UInt8) (c : UInt8) : Int := match (List.range s.length).find? fun i => s[i]? == some c with | some i => (i : Int) | none => -1
def Vb (h : AD) : List AB → Option (AB × AD)
 | [.str s, .int .u8 c] => if 0 ≤ c ∧ c ≤ 255 then some (.int .i64 (idxOf s (UInt8.ofNat c.toNat)), h) else none
 | _ => none
theorem Pb {α : Type} {p q : α → Bool} : ∀ (l : List α), (∀ x ∈ l, p x = q x) → l.find? p = l.find? q
 | [], _ => rfl
 | x :: l, h => by rw [List.find?_cons, List.find?_cons, h x (by simp), Pb l fun y hy => h y (by simp [hy])]
theorem idx_eq (s : List UInt8) (c : UInt8) : ((List.range (⟨⟨s⟩⟩ : ByteArray).size).find? fun i => (⟨⟨s⟩⟩ : ByteArray)[i]! == c) = (List.range s.length).find? fun i => s[i]? == some c := by
 refine Pb _ fun i hi => ?_
 have hi : i < s.length := by have := List.mem_range.1 hi; exact this
 have : (⟨⟨s⟩⟩ : ByteArray)[i]! = s[i] := getElem!_pos (⟨⟨s⟩⟩ : ByteArray) i hi
 rw [this, List.getElem?_eq_getElem hi]
 rfl
def G3 (s : List UInt8) (c : Int) : Option Int := if 0 ≤ c ∧ c ≤ 255 then some (idxOf s (UInt8.ofNat c.toNat)) else none
end Go.Av
end
/-
 A part.
-/
section
namespace Go.Av
set_option linter.unusedVariables false
set_option linter.unusedSimpArgs false
theorem Fk {x : Int} (h1 : -9223372036854775808 ≤ x) (h2 : x ≤ 9223372036854775807) : IntKind.i64.wrap x = x := by rw [IntKind.wrap_i64]; omega
theorem bN {x : Int} (h1 : 0 ≤ x) (h2 : x ≤ 255) : IntKind.u8.wrap x = x := by rw [IntKind.wrap_u8]; omega
theorem Ec {α : Type} (p : Prop) [Decidable p] (x y : Option α) : Aa (decide p) x y = if p then x else y := by
 by_cases h : p <;> simp [h]
theorem N7 {α β : Type} [DecidableEq β] (a b : β) (x y : Option α) : Aa (a == b) x y = if a = b then x else y := by
 by_cases h : a = b <;> simp [h]
 have : (a == b) = false := by simpa using h
 simp [this]
theorem WZ {α β : Type} [DecidableEq β] (a b : β) (x y : Option α) : Aa (a != b) x y = if a = b then y else x := by
 by_cases h : a = b <;> simp [h]
 have : (a != b) = true := by simpa using h
 simp [this]
theorem Xs (b c : Bool) : Aa b (some true) (some c) = some (b || c) := by cases b <;> rfl
theorem IJ {s : List UInt8} {i : Nat} {b : UInt8} (h : s[i]? = some b) : MZ s (i : Int) = some (b.toNat : Int) := by
 unfold MZ
 rw [if_pos (by omega), Int.toNat_natCast, h]; rfl
theorem CR {σ ρ : Type} {step : σ → Option (σ ⊕ ρ)} {s s' : σ} (h : step s = some (.inl s')) : loop step s = loop step s' := by
 by_cases hx : ∃ r, loop step s' = some r
 ·obtain ⟨r, hr⟩ := hx
  rw [hr]; exact PN h hr
 ·cases hl : loop step s with
  | none =>
   cases hl' : loop step s' with
   | none => rfl
   | some r => exact absurd ⟨r, hl'⟩ hx
  | some r =>
   obtain ⟨n, hn⟩ := QV hl
   cases n with
   | zero => cases hn
   | succ n =>
    simp only [HM, h] at hn
    exact absurd ⟨r, Qw hn⟩ hx
theorem Cu {σ ρ : Type} {step : σ → Option (σ ⊕ ρ)} {s : σ} {r : ρ} (h : step s = some (.inr r)) : loop step s = some r := K4 h
def W {α : Type} (m : Option α) (Q : α → Prop) : Prop := ∃ r, m = some r ∧ Q r
theorem W.mono {α : Type} {m : Option α} {Q Q' : α → Prop} (w : W m Q) (h : ∀ r, Q r → Q' r) : W m Q' := by obtain ⟨r, e, q⟩ := w; exact ⟨r, e, h r q⟩
theorem W.ret {α : Type} {x : α} {Q : α → Prop} (h : Q x) : W (some x) Q := ⟨x, rfl, h⟩
theorem W.bind {α β : Type} {m : Option α} {k : α → Option β} {Q : β → Prop} (w : W m fun x => W (k x) Q) : W (m.bind k) Q := by obtain ⟨r, e, q⟩ := w; rw [e]; exact q
theorem W.ite {α : Type} {b : Bool} {x y : Option α} {Q : α → Prop} (h1 : b = true → W x Q) (h2 : b = false → W y Q) : W (Aa b x y) Q := by cases b; exact h2 rfl; exact h1 rfl
theorem W.VP {α : Type} {p : Prop} [Decidable p] {x y : Option α} {Q : α → Prop} (h1 : p → W x Q) (h2 : ¬ p → W y Q) : W (Aa (decide p) x y) Q := by by_cases h : p <;> simp [h, h1, h2]
theorem W.BS {α : Type} {b : Bool} {x : Option α} {Q : α → Prop} (h1 : b = true) (h2 : W x Q) : W (BS b x) Q := by rw [h1]; exact h2
theorem W.of {α : Type} {m : Option α} {x : α} {Q : α → Prop} (e : m = some x) (h : Q x) : W m Q := ⟨x, e, h⟩
theorem W.loop {σ ρ : Type} {step : σ → Option (σ ⊕ ρ)} {s : σ} {Q : ρ → Prop} (inv : σ → Prop) (μ : σ → Nat) (hi : inv s)
  (hs : ∀ s, inv s → W (step s) (fun r => match r with | .inl s' => inv s' ∧ μ s' < μ s | .inr r => Q r)) : W (Av.loop step s) Q := by
 refine UP inv μ Q (fun s hi => ?_) s hi
 obtain ⟨r, e, q⟩ := hs s hi
 cases r with
 | inl s' => exact .inl ⟨s', e, q⟩
 | inr r => exact .inr ⟨r, e, q⟩
theorem W.eq {α : Type} {m : Option α} {x : α} (w : W m fun r => r = x) : m = some x := by obtain ⟨r, e, q⟩ := w; rw [e, q]
theorem Y3 {n : Nat} {u : Int} (h : 0 ≤ u ∧ u ≤ n) : Tj n none (some u) = some (0, u.toNat) := by simp only [Tj]; rw [if_pos h]
theorem ZJ {n : Nat} {l : Int} (h : 0 ≤ l ∧ l ≤ n) : Tj n (some l) none = some (l.toNat, n) := by simp only [Tj]; rw [if_pos h]
theorem VB {n : Nat} {l u : Int} (h : 0 ≤ l ∧ l ≤ u ∧ u ≤ n) : Tj n (some l) (some u) = some (l.toNat, u.toNat) := by simp only [Tj]; rw [if_pos (by omega), if_pos (by omega)]
theorem drop_cons {α : Type} {l : List α} {i : Nat} (h : i < l.length) : l.drop i = l[i] :: l.drop (i + 1) := List.drop_eq_getElem_cons h
theorem I4 {α : Type} {l : List α} {k : Nat} {x : α} (h : l[k]? = some x) : l.take (k + 1) = l.take k ++ [x] := by
 rw [List.take_add_one, h]; rfl
theorem Fe {k : Nat} (h : k < 4611686018427387904) : IntKind.i64.wrap ((k : Int) + 1) = ((k + 1 : Nat) : Int) := by rw [Fk (by omega) (by omega)]; omega
theorem Qa {α : Type} {l : List α} {i : Nat} {x : α} (h : l[i]? = some x) : Hj l (i : Int) = some x := by
 unfold Hj
 rw [if_pos (by omega), Int.toNat_natCast, h]
theorem Kz {s : List UInt8} {i : Nat} (h : i ≤ s.length) : D7 s (some (i : Int)) none = some (s.drop i) := by
 unfold D7
 rw [ZJ ⟨by omega, by omega⟩]
 simp only [Option.map_some, Int.toNat_natCast]
 rw [List.take_of_length_le (by simp)]
theorem Gq {s : List UInt8} {i : Nat} (h : i ≤ s.length) : D7 s none (some (i : Int)) = some (s.take i) := by
 unfold D7
 rw [Y3 ⟨by omega, by omega⟩]
 simp
theorem Pw {s : List UInt8} {i j : Nat} (h : i ≤ j) (h2 : j ≤ s.length) : D7 s (some (i : Int)) (some (j : Int)) = some ((s.drop i).take (j - i)) := by
 unfold D7
 rw [VB ⟨by omega, by omega, by omega⟩]
 simp
theorem IB {b n : Nat} (h : n ≤ 1099511627776) (h2 : n * b ≤ 1099511627776) : Ov b n = true := decide_eq_true ⟨h, h2⟩
theorem W.list {α σ τ ρ : Type} {step : τ → Option (τ ⊕ ρ)} {l : List α} {Q : ρ → Prop} (enc : σ → Nat → τ) (P : σ → Nat → Prop)
  (hend : ∀ s, P s l.length → W (step (enc s l.length)) fun o => match o with | .inl _ => False | .inr r => Q r)
  (hstep : ∀ s i (hi : i < l.length), P s i → W (step (enc s i)) fun o => match o with | .inl t => ∃ s', t = enc s' (i + 1) ∧ P s' (i + 1) | .inr r => Q r) (s : σ) (h0 : P s 0) : W (Av.loop step (enc s 0)) Q := by
 have key : ∀ (k i : Nat) (s : σ), i + k = l.length → P s i → W (Av.loop step (enc s i)) Q := by
  intro k
  induction k with
  | zero =>
   intro i s hi hp
   obtain rfl : i = l.length := by omega
   obtain ⟨o, e, q⟩ := hend s hp
   cases o with
   | inl t => exact q.elim
   | inr r => exact ⟨r, K4 e, q⟩
  | succ k ih =>
   intro i s hi hp
   obtain ⟨o, e, q⟩ := hstep s i (by omega) hp
   cases o with
   | inl t =>
    obtain ⟨s', rfl, hp'⟩ := q
    rw [CR e]
    exact ih (i + 1) s' (by omega) hp'
   | inr r => exact ⟨r, K4 e, q⟩
 exact key l.length 0 s (by omega) h0
theorem Ff {α : Type} {l : List α} {i : Nat} (h : i < l.length) : Hj l (i : Int) = some l[i] := Qa (List.getElem?_eq_getElem h)
theorem JW {l : List UInt8} {i : Nat} (h : i < l.length) : MZ l (i : Int) = some (l[i].toNat : Int) := IJ (List.getElem?_eq_getElem h)
theorem L0 {b : UInt8} {n : Nat} (hn : n < 256) : ((b.toNat : Int) == (n : Int)) = (b == UInt8.ofNat n) := by
 rw [Bool.eq_iff_iff, beq_iff_eq, beq_iff_eq, ← UInt8.toNat_inj, UInt8.toNat_ofNat_of_lt' (by exact hn)]
 omega
theorem idxOf_nil (c : UInt8) : idxOf [] c = -1 := rfl
theorem idxOf_cons (b : UInt8) (t : List UInt8) (c : UInt8) : idxOf (b :: t) c = if b = c then 0 else if idxOf t c < 0 then -1 else idxOf t c + 1 := by
 unfold idxOf
 rw [List.length_cons, List.range_succ_eq_map, List.find?_cons]
 by_cases h : b = c
 ·simp [h]
 ·have h' : ((b :: t)[0]? == some c) = false := by simpa using h
  rw [h', if_neg h, List.find?_map]
  have e : ((fun i => (b :: t)[i]? == some c) ∘ Nat.succ) = fun i => t[i]? == some c := by
   funext i; simp
  rw [e]
  cases hf : List.find? (fun i => t[i]? == some c) (List.range t.length) with
  | none => simp
  | some i => simp; omega
theorem Kw (s : List UInt8) (c : UInt8) : 0 ≤ idxOf s c ↔ c ∈ s := by
 induction s with
 | nil => rw [idxOf_nil]; simp
 | cons b t ih =>
  rw [idxOf_cons, List.mem_cons]
  by_cases hb : b = c
  ·simp [hb]
  ·rw [if_neg hb]
   have hb' : ¬ c = b := fun h => hb h.symm
   simp only [hb', false_or, ← ih]
   split <;> omega
end Go.Av
end
/-
 A part.
-/
section
namespace Go.Av
set_option linter.unusedVariables false
set_option linter.unusedSimpArgs false
structure Yv (P : Program) (t : TypeId) {K : Type} [DecidableEq K] (ek : K → AB) : Prop where
 ok : ∀ x, En P 20 t (ek x) = true
 eq : ∀ x y, IG P 10000 t (ek x) (ek y) = some (decide (x = y))
 same : ∀ x, LL (ek x) (ek x) = true
theorem Ni {P : Program} {t : TypeId} {k : IntKind} (hu : P.underlying t = some (.int k)) : Yv P t (fun n : Int => AB.int k n) := by
 refine ⟨fun x => ?_, fun x y => ?_, fun x => by simp [LL, OE]⟩
 ·unfold En; rw [hu]
 ·show IG P (9999 + 1) t _ _ = _
  unfold IG
  rw [hu]
  simp only [if_true, Option.some.injEq]
  rw [Bool.eq_iff_iff]; simp
section
variable {K V : Type} [DecidableEq K]
def PQ : List (K × V) → K → Option V
 | [], _ => none
 | (k', v) :: r, k => if k = k' then some v else PQ r k
def CW : List (K × V) → K → V → List (K × V)
 | [], k, v => [(k, v)]
 | (k', v') :: r, k, v => if k = k' then (k, v) :: r else (k', v') :: CW r k v
def SY : List (K × V) → K → List (K × V)
 | [], _ => []
 | (k', v') :: r, k => if k = k' then r else (k', v') :: SY r k
def FB (ek : K → AB) (ev : V → AB) (m : List (K × V)) : List (AB × AB) := m.map fun p => (ek p.1, ev p.2)
variable {P : Program} {t kt et : TypeId} {ek : K → AB} {ev : V → AB} {g : Gd} {h : AD} {L F : List Ck}
theorem OR (E : Yv P kt ek) (k : K) (v : V) : ∀ (m : List (K × V)) (i : Nat),
  (C1 P kt (ek k) (FB ek ev m) i = some none ∧ PQ m k = none ∧ FB ek ev (CW m k v) = FB ek ev m ++ [(ek k, ev v)] ∧ SY m k = m) ∨
  (∃ j w, C1 P kt (ek k) (FB ek ev m) i = some (some (i + j, ev w)) ∧ PQ m k = some w ∧ (FB ek ev m)[j]? = some (ek k, ev w) ∧ FB ek ev (CW m k v) = (FB ek ev m).set j (ek k, ev v) ∧ FB ek ev (SY m k) = (FB ek ev m).eraseIdx j)
 | [], i => .inl ⟨rfl, rfl, rfl, rfl⟩
 | (k', v') :: r, i => by
  have e1 : FB ek ev ((k', v') :: r) = (ek k', ev v') :: FB ek ev r := rfl
  rw [e1, C1, E.eq]
  by_cases hk : k = k'
  ·subst hk
   refine .inr ⟨0, v', ?_, ?_, rfl, ?_, ?_⟩
   ·simp
   ·simp [PQ]
   ·simp [CW, FB]
   ·simp [SY]
  ·rw [decide_eq_false hk]
   rcases OR E k v r (i + 1) with ⟨h1, h2, h3, h4⟩ | ⟨j, w, h1, h2, h3, h4, h5⟩
   ·refine .inl ⟨h1, ?_, ?_, ?_⟩
    ·rw [PQ, if_neg hk]; exact h2
    ·rw [CW, if_neg hk]
     show (ek k', ev v') :: FB ek ev (CW r k v) = _
     rw [h3]; rfl
    ·rw [SY, if_neg hk, h4]
   ·refine .inr ⟨j + 1, w, ?_, ?_, ?_, ?_, ?_⟩
    ·dsimp only
     rw [h1]; simp; omega
    ·rw [PQ, if_neg hk]; exact h2
    ·rw [List.getElem?_cons_succ]; exact h3
    ·rw [CW, if_neg hk]
     show (ek k', ev v') :: FB ek ev (CW r k v) = _
     rw [h4]; rfl
    ·rw [SY, if_neg hk]
     show (ek k', ev v') :: FB ek ev (SY r k) = _
     rw [h5]; rfl
theorem HH.Nj (E : Yv P kt ek) (a : HH g h L F) (n : Nat) {id : Nat} {m : List (K × V)} (hk : L[n]? = some (.obj id (.map 2 (FB ek ev m)))) (hu : P.underlying t = some (.map kt et)) (k : K) (v : V) (hz : Nk g h (ev v) = some (ev v, h) := by rfl) :
  ∃ h', aJ P g h t (some id) (ek k) (ev v) = some h' ∧ HH g h' (L.set n (.obj id (.map 2 (FB ek ev (CW m k v))))) F := by
 have hg := a.get n hk
 have hm : g.may id = true := a.ML hk (by simp [Ck.ids])
 refine ⟨h.set id (.map 2 (FB ek ev (CW m k v))), ?_, a.set n _ hk⟩
 unfold aJ FJ
 rw [hz]
 show HT P g h t (.map (some id)) (ek k) (ev v) = _
 unfold HT
 rw [hu]
 simp only [E.ok, hm, and_self, if_true, hg]
 rcases OR (ev := ev) E k v m 0 with ⟨h1, h2, h3, _⟩ | ⟨j, w, h1, h2, h3, h4, _⟩
 ·rw [h1, h3]
 ·rw [h1]
  simp only [Nat.zero_add, h3, E.same, if_true, h4]
end
end Go.Av
end
