/-
  Several texts in one.
-/
import Derived.Test.YtlljeoogceblmaaGreatDoorAvIn
import Derived.IntWalk
import Derived.Test.YtlljeoogceblmaaGreatDoorAvTy
/-
 A part.
-/
section
namespace Go.Av
open Go.RowKit
set_option linter.unusedVariables false
def idxOf (s : List UInt8) (c : UInt8) : Int := match (List.range s.length).find? fun i => s[i]? == some c with | some i => (i : Int) | none => -1
def VS (h : AD) : List AA → Option (AA × AD)
 | [.str s, .int .u8 c] => if 0 ≤ c ∧ c ≤ 255 then some (.int .i64 (idxOf s (UInt8.ofNat c.toNat)), h) else none
 | _ => none
theorem PF {α : Type} {p q : α → Bool} : ∀ (l : List α), (∀ x ∈ l, p x = q x) → l.find? p = l.find? q
 | [], _ => rfl
 | x :: l, h => by rw [List.find?_cons, List.find?_cons, h x (by simp), PF l fun y hy => h y (by simp [hy])]
theorem idx_eq (s : List UInt8) (c : UInt8) : ((List.range (⟨⟨s⟩⟩ : ByteArray).size).find? fun i => (⟨⟨s⟩⟩ : ByteArray)[i]! == c) = (List.range s.length).find? fun i => s[i]? == some c := by
 refine PF _ fun i hi => ?_
 have hi : i < s.length := by have := List.mem_range.1 hi; exact this
 have : (⟨⟨s⟩⟩ : ByteArray)[i]! = s[i] := getElem!_pos (⟨⟨s⟩⟩ : ByteArray) i hi
 rw [this, List.getElem?_eq_getElem hi]
 rfl
def FP (s : List UInt8) (c : Int) : Option Int := if 0 ≤ c ∧ c ≤ 255 then some (idxOf s (UInt8.ofNat c.toNat)) else none
end Go.Av
end
/-
 A part.
-/
section
namespace Go.Av
set_option linter.unusedVariables false
set_option linter.unusedSimpArgs false
theorem JK {x : Int} (h1 : -9223372036854775808 ≤ x) (h2 : x ≤ 9223372036854775807) : IntKind.i64.wrap x = x := by rw [IntKind.wrap_i64]; omega
theorem aS {x : Int} (h1 : 0 ≤ x) (h2 : x ≤ 255) : IntKind.u8.wrap x = x := by rw [IntKind.wrap_u8]; omega
theorem EH {α : Type} (p : Prop) [Decidable p] (x y : Option α) : Ad (decide p) x y = if p then x else y := by
 by_cases h : p <;> simp [h]
theorem Li {α β : Type} [DecidableEq β] (a b : β) (x y : Option α) : Ad (a == b) x y = if a = b then x else y := by
 by_cases h : a = b <;> simp [h]
 have : (a == b) = false := by simpa using h
 simp [this]
theorem VT {α β : Type} [DecidableEq β] (a b : β) (x y : Option α) : Ad (a != b) x y = if a = b then y else x := by
 by_cases h : a = b <;> simp [h]
 have : (a != b) = true := by simpa using h
 simp [this]
theorem Tj (b c : Bool) : Ad b (some true) (some c) = some (b || c) := by cases b <;> rfl
theorem Lo {s : List UInt8} {i : Nat} {b : UInt8} (h : s[i]? = some b) : LN s (i : Int) = some (b.toNat : Int) := by
 unfold LN
 rw [if_pos (by omega), Int.toNat_natCast, h]; rfl
theorem Z3 {m b : Int} (hb : 0 ≤ b ∧ b < 8) (h1 : -9223372036854775808 ≤ m * 8) (h2 : m * 8 ≤ 9223372036854775552) : Qp .i64 (m * 8) b = m * 8 + b := by
 unfold Qp
 have e1 : (BitVec.ofInt 64 (m * 8)).toNat = 2 ^ 3 * (m % 2305843009213693952).toNat := by
  rw [BitVec.toNat_ofInt]
  omega
 have e2 : (BitVec.ofInt 64 b).toNat = b.toNat := by
  rw [BitVec.toNat_ofInt]
  omega
 have e3 : (BitVec.ofInt 64 (m * 8) ||| BitVec.ofInt 64 b).toNat = 8 * (m % 2305843009213693952).toNat + b.toNat := by
  rw [BitVec.toNat_or, e1, e2, ← Nat.two_pow_add_eq_or_of_lt (by omega)]
 show IntKind.i64.wrap ((BitVec.ofInt 64 (m * 8) ||| BitVec.ofInt 64 b).toNat : Int) = _
 rw [e3, IntKind.wrap_i64]
 omega
theorem Yh {m : Int} (h1 : -9223372036854775808 ≤ m * 8) (h2 : m * 8 ≤ 9223372036854775807) : HB .i64 m 3 = m * 8 := by
 show IntKind.i64.wrap (m * 8) = _
 exact JK h1 h2
theorem Eo {σ ρ : Type} {step : σ → Option (σ ⊕ ρ)} {s s' : σ} (h : step s = some (.inl s')) : loop step s = loop step s' := by
 by_cases hx : ∃ r, loop step s' = some r
 ·obtain ⟨r, hr⟩ := hx
  rw [hr]; exact PM h hr
 ·cases hl : loop step s with
  | none =>
   cases hl' : loop step s' with
   | none => rfl
   | some r => exact absurd ⟨r, hl'⟩ hx
  | some r =>
   obtain ⟨n, hn⟩ := P8 hl
   cases n with
   | zero => cases hn
   | succ n =>
    simp only [Gl, h] at hn
    exact absurd ⟨r, QU hn⟩ hx
theorem E5 {σ ρ : Type} {step : σ → Option (σ ⊕ ρ)} {s : σ} {r : ρ} (h : step s = some (.inr r)) : loop step s = some r := KC h
def W {α : Type} (m : Option α) (Q : α → Prop) : Prop := ∃ r, m = some r ∧ Q r
theorem W.mono {α : Type} {m : Option α} {Q Q' : α → Prop} (w : W m Q) (h : ∀ r, Q r → Q' r) : W m Q' := by obtain ⟨r, e, q⟩ := w; exact ⟨r, e, h r q⟩
theorem W.ret {α : Type} {x : α} {Q : α → Prop} (h : Q x) : W (some x) Q := ⟨x, rfl, h⟩
theorem W.bind {α β : Type} {m : Option α} {k : α → Option β} {Q : β → Prop} (w : W m fun x => W (k x) Q) : W (m.bind k) Q := by obtain ⟨r, e, q⟩ := w; rw [e]; exact q
theorem W.ite {α : Type} {b : Bool} {x y : Option α} {Q : α → Prop} (h1 : b = true → W x Q) (h2 : b = false → W y Q) : W (Ad b x y) Q := by cases b; exact h2 rfl; exact h1 rfl
theorem W.QC {α : Type} {p : Prop} [Decidable p] {x y : Option α} {Q : α → Prop} (h1 : p → W x Q) (h2 : ¬ p → W y Q) : W (Ad (decide p) x y) Q := by by_cases h : p <;> simp [h, h1, h2]
theorem W.D3 {α : Type} {b : Bool} {x : Option α} {Q : α → Prop} (h1 : b = true) (h2 : W x Q) : W (D3 b x) Q := by rw [h1]; exact h2
theorem W.loop {σ ρ : Type} {step : σ → Option (σ ⊕ ρ)} {s : σ} {Q : ρ → Prop} (inv : σ → Prop) (μ : σ → Nat) (hi : inv s)
  (hs : ∀ s, inv s → W (step s) (fun r => match r with | .inl s' => inv s' ∧ μ s' < μ s | .inr r => Q r)) : W (Av.loop step s) Q := by
 refine Uo inv μ Q (fun s hi => ?_) s hi
 obtain ⟨r, e, q⟩ := hs s hi
 cases r with
 | inl s' => exact .inl ⟨s', e, q⟩
 | inr r => exact .inr ⟨r, e, q⟩
theorem W.eq {α : Type} {m : Option α} {x : α} (w : W m fun r => r = x) : m = some x := by obtain ⟨r, e, q⟩ := w; rw [e, q]
theorem Yj {n : Nat} {u : Int} (h : 0 ≤ u ∧ u ≤ n) : Ua n none (some u) = some (0, u.toNat) := by simp only [Ua]; rw [if_pos h]
theorem YE {n : Nat} {l : Int} (h : 0 ≤ l ∧ l ≤ n) : Ua n (some l) none = some (l.toNat, n) := by simp only [Ua]; rw [if_pos h]
theorem V5 {n : Nat} {l u : Int} (h : 0 ≤ l ∧ l ≤ u ∧ u ≤ n) : Ua n (some l) (some u) = some (l.toNat, u.toNat) := by simp only [Ua]; rw [if_pos (by omega), if_pos (by omega)]
theorem FQ {α : Type} {l : List α} {k : Nat} {x : α} (h : l[k]? = some x) : l.take (k + 1) = l.take k ++ [x] := by
 rw [List.take_add_one, h]; rfl
theorem HM {k : Nat} (h : k < 4611686018427387904) : IntKind.i64.wrap ((k : Int) + 1) = ((k + 1 : Nat) : Int) := by rw [JK (by omega) (by omega)]; omega
theorem Pw {α : Type} {l : List α} {i : Nat} {x : α} (h : l[i]? = some x) : IG l (i : Int) = some x := by
 unfold IG
 rw [if_pos (by omega), Int.toNat_natCast, h]
theorem NF {s : List UInt8} {i : Nat} (h : i ≤ s.length) : FF s (some (i : Int)) none = some (s.drop i) := by
 unfold FF
 rw [YE ⟨by omega, by omega⟩]
 simp only [Option.map_some, Int.toNat_natCast]
 rw [List.take_of_length_le (by simp)]
theorem Is {s : List UInt8} {i : Nat} (h : i ≤ s.length) : FF s none (some (i : Int)) = some (s.take i) := by
 unfold FF
 rw [Yj ⟨by omega, by omega⟩]
 simp
theorem UU {s : List UInt8} {i j : Nat} (h : i ≤ j) (h2 : j ≤ s.length) : FF s (some (i : Int)) (some (j : Int)) = some ((s.drop i).take (j - i)) := by
 unfold FF
 rw [V5 ⟨by omega, by omega, by omega⟩]
 simp
theorem QE {b n : Nat} (h : n ≤ 1099511627776) (h2 : n * b ≤ 1099511627776) : R4 b n = true := decide_eq_true ⟨h, h2⟩
theorem W.list {α σ τ ρ : Type} {step : τ → Option (τ ⊕ ρ)} {l : List α} {Q : ρ → Prop} (enc : σ → Nat → τ) (P : σ → Nat → Prop)
  (hend : ∀ s, P s l.length → W (step (enc s l.length)) fun o => match o with | .inl _ => False | .inr r => Q r)
  (hstep : ∀ s i (hi : i < l.length), P s i → W (step (enc s i)) fun o => match o with | .inl t => ∃ s', t = enc s' (i + 1) ∧ P s' (i + 1) | .inr r => Q r) (s : σ) (h0 : P s 0) : W (Av.loop step (enc s 0)) Q := by
 have key : ∀ (k i : Nat) (s : σ), i + k = l.length → P s i → W (Av.loop step (enc s i)) Q := by
  intro k
  induction k with
  | zero =>
   intro i s hi hp
   obtain rfl : i = l.length := by omega
   obtain ⟨o, e, q⟩ := hend s hp
   cases o with
   | inl t => exact q.elim
   | inr r => exact ⟨r, KC e, q⟩
  | succ k ih =>
   intro i s hi hp
   obtain ⟨o, e, q⟩ := hstep s i (by omega) hp
   cases o with
   | inl t =>
    obtain ⟨s', rfl, hp'⟩ := q
    rw [Eo e]
    exact ih (i + 1) s' (by omega) hp'
   | inr r => exact ⟨r, KC e, q⟩
 exact key l.length 0 s (by omega) h0
theorem Gv {α : Type} {l : List α} {i : Nat} (h : i < l.length) : IG l (i : Int) = some l[i] := Pw (List.getElem?_eq_getElem h)
theorem KI {l : List UInt8} {i : Nat} (h : i < l.length) : LN l (i : Int) = some (l[i].toNat : Int) := Lo (List.getElem?_eq_getElem h)
theorem Tk {b : UInt8} {n : Nat} (hn : n < 256) : ((b.toNat : Int) == (n : Int)) = (b == UInt8.ofNat n) := by
 rw [Bool.eq_iff_iff, beq_iff_eq, beq_iff_eq, ← UInt8.toNat_inj, UInt8.toNat_ofNat_of_lt' (by exact hn)]
 omega
theorem idxOf_nil (c : UInt8) : idxOf [] c = -1 := rfl
theorem idxOf_cons (b : UInt8) (t : List UInt8) (c : UInt8) : idxOf (b :: t) c = if b = c then 0 else if idxOf t c < 0 then -1 else idxOf t c + 1 := by
 unfold idxOf
 rw [List.length_cons, List.range_succ_eq_map, List.find?_cons]
 by_cases h : b = c
 ·simp [h]
 ·have h' : ((b :: t)[0]? == some c) = false := by simpa using h
  rw [h', if_neg h, List.find?_map]
  have e : ((fun i => (b :: t)[i]? == some c) ∘ Nat.succ) = fun i => t[i]? == some c := by
   funext i; simp
  rw [e]
  cases hf : List.find? (fun i => t[i]? == some c) (List.range t.length) with
  | none => simp
  | some i => simp; omega
theorem MS (s : List UInt8) (c : UInt8) : 0 ≤ idxOf s c ↔ c ∈ s := by
 induction s with
 | nil => rw [idxOf_nil]; simp
 | cons b t ih =>
  rw [idxOf_cons, List.mem_cons]
  by_cases hb : b = c
  ·simp [hb]
  ·rw [if_neg hb]
   have hb' : ¬ c = b := fun h => hb h.symm
   simp only [hb', false_or, ← ih]
   split <;> omega
end Go.Av
end
/-
 A part.
-/
section
namespace Go.Av
set_option linter.unusedVariables false
set_option linter.unusedSimpArgs false
structure Vl (P : Program) (t : TypeId) {K : Type} [DecidableEq K] (ek : K → AA) : Prop where
 ok : ∀ x, EE P 20 t (ek x) = true
 eq : ∀ x y, Fb P 10000 t (ek x) (ek y) = some (decide (x = y))
 same : ∀ x, JR (ek x) (ek x) = true
theorem YF {P : Program} {t : TypeId} (hu : P.underlying t = some .string) : Vl P t (fun s : List UInt8 => AA.str s) := by
 refine ⟨fun x => ?_, fun x y => ?_, fun x => by simp [JR, Mq]⟩
 ·unfold EE; rw [hu]
 ·show Fb P (9999 + 1) t _ _ = _
  unfold Fb
  rw [hu]
  simp only [Option.some.injEq]
  rw [Bool.eq_iff_iff]; simp
theorem M9 {P : Program} {t : TypeId} {k : IntKind} (hu : P.underlying t = some (.int k)) : Vl P t (fun n : Int => AA.int k n) := by
 refine ⟨fun x => ?_, fun x y => ?_, fun x => by simp [JR, Mq]⟩
 ·unfold EE; rw [hu]
 ·show Fb P (9999 + 1) t _ _ = _
  unfold Fb
  rw [hu]
  simp only [if_true, Option.some.injEq]
  rw [Bool.eq_iff_iff]; simp
section
variable {K V : Type} [DecidableEq K]
def C3 : List (K × V) → K → Option V
 | [], _ => none
 | (k', v) :: r, k => if k = k' then some v else C3 r k
def Bb : List (K × V) → K → V → List (K × V)
 | [], k, v => [(k, v)]
 | (k', v') :: r, k, v => if k = k' then (k, v) :: r else (k', v') :: Bb r k v
def Sc : List (K × V) → K → List (K × V)
 | [], _ => []
 | (k', v') :: r, k => if k = k' then r else (k', v') :: Sc r k
def DQ (ek : K → AA) (ev : V → AA) (m : List (K × V)) : List (AA × AA) := m.map fun p => (ek p.1, ev p.2)
variable {P : Program} {t kt et : TypeId} {ek : K → AA} {ev : V → AA} {g : Gd} {h : AD} {L F : List Ck}
theorem Kx (E : Vl P kt ek) (k : K) (v : V) : ∀ (m : List (K × V)) (i : Nat),
  (CZ P kt (ek k) (DQ ek ev m) i = some none ∧ C3 m k = none ∧ DQ ek ev (Bb m k v) = DQ ek ev m ++ [(ek k, ev v)] ∧ Sc m k = m) ∨
  (∃ j w, CZ P kt (ek k) (DQ ek ev m) i = some (some (i + j, ev w)) ∧ C3 m k = some w ∧ (DQ ek ev m)[j]? = some (ek k, ev w) ∧ DQ ek ev (Bb m k v) = (DQ ek ev m).set j (ek k, ev v) ∧ DQ ek ev (Sc m k) = (DQ ek ev m).eraseIdx j)
 | [], i => .inl ⟨rfl, rfl, rfl, rfl⟩
 | (k', v') :: r, i => by
  have e1 : DQ ek ev ((k', v') :: r) = (ek k', ev v') :: DQ ek ev r := rfl
  rw [e1, CZ, E.eq]
  by_cases hk : k = k'
  ·subst hk
   refine .inr ⟨0, v', ?_, ?_, rfl, ?_, ?_⟩
   ·simp
   ·simp [C3]
   ·simp [Bb, DQ]
   ·simp [Sc]
  ·rw [decide_eq_false hk]
   rcases Kx E k v r (i + 1) with ⟨h1, h2, h3, h4⟩ | ⟨j, w, h1, h2, h3, h4, h5⟩
   ·refine .inl ⟨h1, ?_, ?_, ?_⟩
    ·rw [C3, if_neg hk]; exact h2
    ·rw [Bb, if_neg hk]
     show (ek k', ev v') :: DQ ek ev (Bb r k v) = _
     rw [h3]; rfl
    ·rw [Sc, if_neg hk, h4]
   ·refine .inr ⟨j + 1, w, ?_, ?_, ?_, ?_, ?_⟩
    ·dsimp only
     rw [h1]; simp; omega
    ·rw [C3, if_neg hk]; exact h2
    ·rw [List.getElem?_cons_succ]; exact h3
    ·rw [Bb, if_neg hk]
     show (ek k', ev v') :: DQ ek ev (Bb r k v) = _
     rw [h4]; rfl
    ·rw [Sc, if_neg hk]
     show (ek k', ev v') :: DQ ek ev (Sc r k) = _
     rw [h5]; rfl
theorem HH.X5 (E : Vl P kt ek) (a : HH g h L F) (n : Nat) {id : Nat} {m : List (K × V)} (hk : L[n]? = some (.obj id (.map 2 (DQ ek ev m)))) (hu : P.underlying t = some (.map kt et)) {z : V} (hz : Ga P et = some (ev z)) (k : K) :
  WR P h t (some id) (ek k) = some (ev ((C3 m k).getD z), (C3 m k).isSome) := by
 have hg := a.get n hk
 unfold WR
 rw [hu]
 simp only [E.ok, if_true, ZE, hg]
 rw [if_pos (by decide)]
 dsimp only
 rcases Kx (ev := ev) E k z m 0 with ⟨h1, h2, _, _⟩ | ⟨j, w, h1, h2, _, _, _⟩
 ·rw [h1, h2]; simp [hz]
 ·rw [h1, h2]; rfl
theorem HH.MU (E : Vl P kt ek) (a : HH g h L F) (n : Nat) {id : Nat} {m : List (K × V)} (hk : L[n]? = some (.obj id (.map 2 (DQ ek ev m)))) (hu : P.underlying t = some (.map kt et)) (k : K) (v : V) (hz : FZ g h (ev v) = some (ev v, h) := by rfl) :
  ∃ h', aQ P g h t (some id) (ek k) (ev v) = some h' ∧ HH g h' (L.set n (.obj id (.map 2 (DQ ek ev (Bb m k v))))) F := by
 have hg := a.get n hk
 have hm : g.may id = true := a.K5 hk (by simp [Ck.ids])
 refine ⟨h.set id (.map 2 (DQ ek ev (Bb m k v))), ?_, a.set n _ hk⟩
 unfold aQ En
 rw [hz]
 show Gw P g h t (.map (some id)) (ek k) (ev v) = _
 unfold Gw
 rw [hu]
 simp only [E.ok, hm, and_self, if_true, hg]
 rcases Kx (ev := ev) E k v m 0 with ⟨h1, h2, h3, _⟩ | ⟨j, w, h1, h2, h3, h4, _⟩
 ·rw [h1, h3]
 ·rw [h1]
  simp only [Nat.zero_add, h3, E.same, if_true, h4]
end
end Go.Av
end
