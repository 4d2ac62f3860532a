/-
  Several texts in one.
-/
import Derived.Test.YtlljeoogceblmaaGreatDoorAvIn
import Derived.IntWalk
import Derived.Test.YtlljeoogceblmaaGreatDoorAvTy
/-
 A part.
-/
section
namespace Go.Av
open Go.RowKit
set_option linter.unusedVariables false
def idxOf (s : List UInt8) (c : UInt8) : Int := match (List.range s.length).find? fun i => s[i]? == some c with | some i => (i : Int) | none => -1
def Vo (h : AD) : List AB → Option (AB × AD)
 | [.str s, .int .u8 c] => if 0 ≤ c ∧ c ≤ 255 then some (.int .i64 (idxOf s (UInt8.ofNat c.toNat)), h) else none
 | _ => none
theorem PQ {α : Type} {p q : α → Bool} : ∀ (l : List α), (∀ x ∈ l, p x = q x) → l.find? p = l.find? q
 | [], _ => rfl
 | x :: l, h => by rw [List.find?_cons, List.find?_cons, h x (by simp), PQ l fun y hy => h y (by simp [hy])]
theorem idx_eq (s : List UInt8) (c : UInt8) : ((List.range (⟨⟨s⟩⟩ : ByteArray).size).find? fun i => (⟨⟨s⟩⟩ : ByteArray)[i]! == c) = (List.range s.length).find? fun i => s[i]? == some c := by
 refine PQ _ fun i hi => ?_
 have hi : i < s.length := by have := List.mem_range.1 hi; exact this
 have : (⟨⟨s⟩⟩ : ByteArray)[i]! = s[i] := getElem!_pos (⟨⟨s⟩⟩ : ByteArray) i hi
 rw [this, List.getElem?_eq_getElem hi]
 rfl
def G9 (s : List UInt8) (c : Int) : Option Int := if 0 ≤ c ∧ c ≤ 255 then some (idxOf s (UInt8.ofNat c.toNat)) else none
end Go.Av
end
/-
 A part.
-/
section
namespace Go.Av
set_option linter.unusedVariables false
set_option linter.unusedSimpArgs false
theorem GA {x : Int} (h1 : -9223372036854775808 ≤ x) (h2 : x ≤ 9223372036854775807) : IntKind.i64.wrap x = x := by rw [IntKind.wrap_i64]; omega
theorem az {x : Int} (h1 : 0 ≤ x) (h2 : x ≤ 255) : IntKind.u8.wrap x = x := by rw [IntKind.wrap_u8]; omega
theorem Ej {α : Type} (p : Prop) [Decidable p] (x y : Option α) : Af (decide p) x y = if p then x else y := by
 by_cases h : p <;> simp [h]
theorem N8 {α β : Type} [DecidableEq β] (a b : β) (x y : Option α) : Af (a == b) x y = if a = b then x else y := by
 by_cases h : a = b <;> simp [h]
 have : (a == b) = false := by simpa using h
 simp [this]
theorem Vj {α β : Type} [DecidableEq β] (a b : β) (x y : Option α) : Af (a != b) x y = if a = b then y else x := by
 by_cases h : a = b <;> simp [h]
 have : (a != b) = true := by simpa using h
 simp [this]
theorem TR (b c : Bool) : Af b (some true) (some c) = some (b || c) := by cases b <;> rfl
theorem UC {s : List UInt8} {i : Nat} {b : UInt8} (h : s[i]? = some b) : SK s (i : Int) = some (b.toNat : Int) := by
 unfold SK
 rw [if_pos (by omega), Int.toNat_natCast, h]; rfl
theorem DY {σ ρ : Type} {step : σ → Option (σ ⊕ ρ)} {s s' : σ} (h : step s = some (.inl s')) : loop step s = loop step s' := by
 by_cases hx : ∃ r, loop step s' = some r
 ·obtain ⟨r, hr⟩ := hx
  rw [hr]; exact PH h hr
 ·cases hl : loop step s with
  | none =>
   cases hl' : loop step s' with
   | none => rfl
   | some r => exact absurd ⟨r, hl'⟩ hx
  | some r =>
   obtain ⟨n, hn⟩ := QG hl
   cases n with
   | zero => cases hn
   | succ n =>
    simp only [HN, h] at hn
    exact absurd ⟨r, QK hn⟩ hx
theorem D5 {σ ρ : Type} {step : σ → Option (σ ⊕ ρ)} {s : σ} {r : ρ} (h : step s = some (.inr r)) : loop step s = some r := Kv h
def W {α : Type} (m : Option α) (Q : α → Prop) : Prop := ∃ r, m = some r ∧ Q r
theorem W.mono {α : Type} {m : Option α} {Q Q' : α → Prop} (w : W m Q) (h : ∀ r, Q r → Q' r) : W m Q' := by obtain ⟨r, e, q⟩ := w; exact ⟨r, e, h r q⟩
theorem W.ret {α : Type} {x : α} {Q : α → Prop} (h : Q x) : W (some x) Q := ⟨x, rfl, h⟩
theorem W.bind {α β : Type} {m : Option α} {k : α → Option β} {Q : β → Prop} (w : W m fun x => W (k x) Q) : W (m.bind k) Q := by obtain ⟨r, e, q⟩ := w; rw [e]; exact q
theorem W.ite {α : Type} {b : Bool} {x y : Option α} {Q : α → Prop} (h1 : b = true → W x Q) (h2 : b = false → W y Q) : W (Af b x y) Q := by cases b; exact h2 rfl; exact h1 rfl
theorem W.VL {α : Type} {p : Prop} [Decidable p] {x y : Option α} {Q : α → Prop} (h1 : p → W x Q) (h2 : ¬ p → W y Q) : W (Af (decide p) x y) Q := by by_cases h : p <;> simp [h, h1, h2]
theorem W.BW {α : Type} {b : Bool} {x : Option α} {Q : α → Prop} (h1 : b = true) (h2 : W x Q) : W (BW b x) Q := by rw [h1]; exact h2
theorem W.loop {σ ρ : Type} {step : σ → Option (σ ⊕ ρ)} {s : σ} {Q : ρ → Prop} (inv : σ → Prop) (μ : σ → Nat) (hi : inv s)
  (hs : ∀ s, inv s → W (step s) (fun r => match r with | .inl s' => inv s' ∧ μ s' < μ s | .inr r => Q r)) : W (Av.loop step s) Q := by
 refine Ua inv μ Q (fun s hi => ?_) s hi
 obtain ⟨r, e, q⟩ := hs s hi
 cases r with
 | inl s' => exact .inl ⟨s', e, q⟩
 | inr r => exact .inr ⟨r, e, q⟩
theorem W.eq {α : Type} {m : Option α} {x : α} (w : W m fun r => r = x) : m = some x := by obtain ⟨r, e, q⟩ := w; rw [e, q]
theorem Yw {n : Nat} {u : Int} (h : 0 ≤ u ∧ u ≤ n) : Us n none (some u) = some (0, u.toNat) := by simp only [Us]; rw [if_pos h]
theorem Y6 {n : Nat} {l : Int} (h : 0 ≤ l ∧ l ≤ n) : Us n (some l) none = some (l.toNat, n) := by simp only [Us]; rw [if_pos h]
theorem drop_cons {α : Type} {l : List α} {i : Nat} (h : i < l.length) : l.drop i = l[i] :: l.drop (i + 1) := List.drop_eq_getElem_cons h
theorem JC {α : Type} {l : List α} {k : Nat} {x : α} (h : l[k]? = some x) : l.take (k + 1) = l.take k ++ [x] := by
 rw [List.take_add_one, h]; rfl
theorem FY {k : Nat} (h : k < 4611686018427387904) : IntKind.i64.wrap ((k : Int) + 1) = ((k + 1 : Nat) : Int) := by rw [GA (by omega) (by omega)]; omega
theorem QQ {α : Type} {l : List α} {i : Nat} {x : α} (h : l[i]? = some x) : HJ l (i : Int) = some x := by
 unfold HJ
 rw [if_pos (by omega), Int.toNat_natCast, h]
theorem MH {s : List UInt8} {i : Nat} (h : i ≤ s.length) : GB s (some (i : Int)) none = some (s.drop i) := by
 unfold GB
 rw [Y6 ⟨by omega, by omega⟩]
 simp only [Option.map_some, Int.toNat_natCast]
 rw [List.take_of_length_le (by simp)]
theorem Ia {s : List UInt8} {i : Nat} (h : i ≤ s.length) : GB s none (some (i : Int)) = some (s.take i) := by
 unfold GB
 rw [Yw ⟨by omega, by omega⟩]
 simp
theorem H4 {b n : Nat} (h : n ≤ 1099511627776) (h2 : n * b ≤ 1099511627776) : Ou b n = true := decide_eq_true ⟨h, h2⟩
theorem W.list {α σ τ ρ : Type} {step : τ → Option (τ ⊕ ρ)} {l : List α} {Q : ρ → Prop} (enc : σ → Nat → τ) (P : σ → Nat → Prop)
  (hend : ∀ s, P s l.length → W (step (enc s l.length)) fun o => match o with | .inl _ => False | .inr r => Q r)
  (hstep : ∀ s i (hi : i < l.length), P s i → W (step (enc s i)) fun o => match o with | .inl t => ∃ s', t = enc s' (i + 1) ∧ P s' (i + 1) | .inr r => Q r) (s : σ) (h0 : P s 0) : W (Av.loop step (enc s 0)) Q := by
 have key : ∀ (k i : Nat) (s : σ), i + k = l.length → P s i → W (Av.loop step (enc s i)) Q := by
  intro k
  induction k with
  | zero =>
   intro i s hi hp
   obtain rfl : i = l.length := by omega
   obtain ⟨o, e, q⟩ := hend s hp
   cases o with
   | inl t => exact q.elim
   | inr r => exact ⟨r, Kv e, q⟩
  | succ k ih =>
   intro i s hi hp
   obtain ⟨o, e, q⟩ := hstep s i (by omega) hp
   cases o with
   | inl t =>
    obtain ⟨s', rfl, hp'⟩ := q
    rw [DY e]
    exact ih (i + 1) s' (by omega) hp'
   | inr r => exact ⟨r, Kv e, q⟩
 exact key l.length 0 s (by omega) h0
theorem FI {α : Type} {l : List α} {i : Nat} (h : i < l.length) : HJ l (i : Int) = some l[i] := QQ (List.getElem?_eq_getElem h)
theorem JU {l : List UInt8} {i : Nat} (h : i < l.length) : SK l (i : Int) = some (l[i].toNat : Int) := UC (List.getElem?_eq_getElem h)
theorem MQ {b : UInt8} {n : Nat} (hn : n < 256) : ((b.toNat : Int) == (n : Int)) = (b == UInt8.ofNat n) := by
 rw [Bool.eq_iff_iff, beq_iff_eq, beq_iff_eq, ← UInt8.toNat_inj, UInt8.toNat_ofNat_of_lt' (by exact hn)]
 omega
theorem idxOf_nil (c : UInt8) : idxOf [] c = -1 := rfl
theorem idxOf_cons (b : UInt8) (t : List UInt8) (c : UInt8) : idxOf (b :: t) c = if b = c then 0 else if idxOf t c < 0 then -1 else idxOf t c + 1 := by
 unfold idxOf
 rw [List.length_cons, List.range_succ_eq_map, List.find?_cons]
 by_cases h : b = c
 ·simp [h]
 ·have h' : ((b :: t)[0]? == some c) = false := by simpa using h
  rw [h', if_neg h, List.find?_map]
  have e : ((fun i => (b :: t)[i]? == some c) ∘ Nat.succ) = fun i => t[i]? == some c := by
   funext i; simp
  rw [e]
  cases hf : List.find? (fun i => t[i]? == some c) (List.range t.length) with
  | none => simp
  | some i => simp; omega
theorem Ku (s : List UInt8) (c : UInt8) : 0 ≤ idxOf s c ↔ c ∈ s := by
 induction s with
 | nil => rw [idxOf_nil]; simp
 | cons b t ih =>
  rw [idxOf_cons, List.mem_cons]
  by_cases hb : b = c
  ·simp [hb]
  ·rw [if_neg hb]
   have hb' : ¬ c = b := fun h => hb h.symm
   simp only [hb', false_or, ← ih]
   split <;> omega
end Go.Av
end
/-
 A part.
-/
section
namespace Go.Av
set_option linter.unusedVariables false
set_option linter.unusedSimpArgs false
structure Y1 (P : Program) (t : TypeId) {K : Type} [DecidableEq K] (ek : K → AB) : Prop where
 ok : ∀ x, Ev P 20 t (ek x) = true
 eq : ∀ x y, IH P 10000 t (ek x) (ek y) = some (decide (x = y))
 same : ∀ x, LC (ek x) (ek x) = true
theorem NS {P : Program} {t : TypeId} {k : IntKind} (hu : P.underlying t = some (.int k)) : Y1 P t (fun n : Int => AB.int k n) := by
 refine ⟨fun x => ?_, fun x y => ?_, fun x => by simp [LC, OR]⟩
 ·unfold Ev; rw [hu]
 ·show IH P (9999 + 1) t _ _ = _
  unfold IH
  rw [hu]
  simp only [if_true, Option.some.injEq]
  rw [Bool.eq_iff_iff]; simp
section
variable {K V : Type} [DecidableEq K]
def PU : List (K × V) → K → Option V
 | [], _ => none
 | (k', v) :: r, k => if k = k' then some v else PU r k
def CM : List (K × V) → K → V → List (K × V)
 | [], k, v => [(k, v)]
 | (k', v') :: r, k, v => if k = k' then (k, v) :: r else (k', v') :: CM r k v
def SF : List (K × V) → K → List (K × V)
 | [], _ => []
 | (k', v') :: r, k => if k = k' then r else (k', v') :: SF r k
def E8 (ek : K → AB) (ev : V → AB) (m : List (K × V)) : List (AB × AB) := m.map fun p => (ek p.1, ev p.2)
variable {P : Program} {t kt et : TypeId} {ek : K → AB} {ev : V → AB} {g : Gd} {h : AD} {L F : List Ck}
theorem ON (E : Y1 P kt ek) (k : K) (v : V) : ∀ (m : List (K × V)) (i : Nat),
  (Cy P kt (ek k) (E8 ek ev m) i = some none ∧ PU m k = none ∧ E8 ek ev (CM m k v) = E8 ek ev m ++ [(ek k, ev v)] ∧ SF m k = m) ∨
  (∃ j w, Cy P kt (ek k) (E8 ek ev m) i = some (some (i + j, ev w)) ∧ PU m k = some w ∧ (E8 ek ev m)[j]? = some (ek k, ev w) ∧ E8 ek ev (CM m k v) = (E8 ek ev m).set j (ek k, ev v) ∧ E8 ek ev (SF m k) = (E8 ek ev m).eraseIdx j)
 | [], i => .inl ⟨rfl, rfl, rfl, rfl⟩
 | (k', v') :: r, i => by
  have e1 : E8 ek ev ((k', v') :: r) = (ek k', ev v') :: E8 ek ev r := rfl
  rw [e1, Cy, E.eq]
  by_cases hk : k = k'
  ·subst hk
   refine .inr ⟨0, v', ?_, ?_, rfl, ?_, ?_⟩
   ·simp
   ·simp [PU]
   ·simp [CM, E8]
   ·simp [SF]
  ·rw [decide_eq_false hk]
   rcases ON E k v r (i + 1) with ⟨h1, h2, h3, h4⟩ | ⟨j, w, h1, h2, h3, h4, h5⟩
   ·refine .inl ⟨h1, ?_, ?_, ?_⟩
    ·rw [PU, if_neg hk]; exact h2
    ·rw [CM, if_neg hk]
     show (ek k', ev v') :: E8 ek ev (CM r k v) = _
     rw [h3]; rfl
    ·rw [SF, if_neg hk, h4]
   ·refine .inr ⟨j + 1, w, ?_, ?_, ?_, ?_, ?_⟩
    ·dsimp only
     rw [h1]; simp; omega
    ·rw [PU, if_neg hk]; exact h2
    ·rw [List.getElem?_cons_succ]; exact h3
    ·rw [CM, if_neg hk]
     show (ek k', ev v') :: E8 ek ev (CM r k v) = _
     rw [h4]; rfl
    ·rw [SF, if_neg hk]
     show (ek k', ev v') :: E8 ek ev (SF r k) = _
     rw [h5]; rfl
theorem HH.NY (E : Y1 P kt ek) (a : HH g h L F) (n : Nat) {id : Nat} {m : List (K × V)} (hk : L[n]? = some (.obj id (.map 2 (E8 ek ev m)))) (hu : P.underlying t = some (.map kt et)) (k : K) (v : V) (hz : Ng g h (ev v) = some (ev v, h) := by rfl) :
  ∃ h', Z5 P g h t (some id) (ek k) (ev v) = some h' ∧ HH g h' (L.set n (.obj id (.map 2 (E8 ek ev (CM m k v))))) F := by
 have hg := a.get n hk
 have hm : g.may id = true := a.MJ hk (by simp [Ck.ids])
 refine ⟨h.set id (.map 2 (E8 ek ev (CM m k v))), ?_, a.set n _ hk⟩
 unfold Z5 FC
 rw [hz]
 show HS P g h t (.map (some id)) (ek k) (ev v) = _
 unfold HS
 rw [hu]
 simp only [E.ok, hm, and_self, if_true, hg]
 rcases ON (ev := ev) E k v m 0 with ⟨h1, h2, h3, _⟩ | ⟨j, w, h1, h2, h3, h4, _⟩
 ·rw [h1, h3]
 ·rw [h1]
  simp only [Nat.zero_add, h3, E.same, if_true, h4]
end
end Go.Av
end
