/-
  Several texts in one.
-/
import Derived.Test.YtdjbadhilkmiiaaGreatDoorAvIn
import Derived.IntWalk
import Derived.Test.YtdjbadhilkmiiaaGreatDoorAvTy
/-
 A part.
-/
section
namespace Go.Av
open Go.RowKit
set_option linter.unusedVariables false
def idxOf (s : List UInt8) (c : UInt8) : Int := match (List.range s.length).find? fun i => s[i]? == some c with | some i => (i : Int) | none => -1
def Td (h : AJ) : List AB → Option (AB × AJ)
 | [.str s, .int .u8 c] => if 0 ≤ c ∧ c ≤ 255 then some (.int .i64 (idxOf s (UInt8.ofNat c.toNat)), h) else none
 | _ => none
theorem PY {α : Type} {p q : α → Bool} : ∀ (l : List α), (∀ x ∈ l, p x = q x) → l.find? p = l.find? q
 | [], _ => rfl
 | x :: l, h => by rw [List.find?_cons, List.find?_cons, h x (by simp), PY l fun y hy => h y (by simp [hy])]
theorem idx_eq (s : List UInt8) (c : UInt8) : ((List.range (⟨⟨s⟩⟩ : ByteArray).size).find? fun i => (⟨⟨s⟩⟩ : ByteArray)[i]! == c) = (List.range s.length).find? fun i => s[i]? == some c := by
 refine PY _ fun i hi => ?_
 have hi : i < s.length := by have := List.mem_range.1 hi; exact this
 have : (⟨⟨s⟩⟩ : ByteArray)[i]! = s[i] := getElem!_pos (⟨⟨s⟩⟩ : ByteArray) i hi
 rw [this, List.getElem?_eq_getElem hi]
 rfl
def Km (s : List UInt8) (c : Int) : Option Int := if 0 ≤ c ∧ c ≤ 255 then some (idxOf s (UInt8.ofNat c.toNat)) else none
end Go.Av
end
/-
 A part.
-/
section
namespace Go.Av
set_option linter.unusedVariables false
set_option linter.unusedSimpArgs false
theorem J4 {x : Int} (h1 : -9223372036854775808 ≤ x) (h2 : x ≤ 9223372036854775807) : IntKind.i64.wrap x = x := by rw [IntKind.wrap_i64]; omega
theorem Xv {x : Int} (h1 : 0 ≤ x) (h2 : x ≤ 255) : IntKind.u8.wrap x = x := by rw [IntKind.wrap_u8]; omega
theorem BH {α : Type} (p : Prop) [Decidable p] (x y : Option α) : Ac (decide p) x y = if p then x else y := by
 by_cases h : p <;> simp [h]
theorem Np {α β : Type} [DecidableEq β] (a b : β) (x y : Option α) : Ac (a == b) x y = if a = b then x else y := by
 by_cases h : a = b <;> simp [h]
 have : (a == b) = false := by simpa using h
 simp [this]
theorem Sr (b c : Bool) : Ac b (some true) (some c) = some (b || c) := by cases b <;> rfl
theorem Qj (b c : Bool) : Ac b (some c) (some false) = some (b && c) := by cases b <;> rfl
theorem VD {s : List UInt8} {i : Nat} {b : UInt8} (h : s[i]? = some b) : KW s (i : Int) = some (b.toNat : Int) := by
 unfold KW
 rw [if_pos (by omega), Int.toNat_natCast, h]; rfl
theorem Jg {σ ρ : Type} {step : σ → Option (σ ⊕ ρ)} {s s' : σ} (h : step s = some (.inl s')) : loop step s = loop step s' := by
 by_cases hx : ∃ r, loop step s' = some r
 ·obtain ⟨r, hr⟩ := hx
  rw [hr]; exact PX h hr
 ·cases hl : loop step s with
  | none =>
   cases hl' : loop step s' with
   | none => rfl
   | some r => exact absurd ⟨r, hl'⟩ hx
  | some r =>
   obtain ⟨n, hn⟩ := Pf hl
   cases n with
   | zero => cases hn
   | succ n =>
    simp only [H4, h] at hn
    exact absurd ⟨r, Po hn⟩ hx
def W {α : Type} (m : Option α) (Q : α → Prop) : Prop := ∃ r, m = some r ∧ Q r
theorem W.mono {α : Type} {m : Option α} {Q Q' : α → Prop} (w : W m Q) (h : ∀ r, Q r → Q' r) : W m Q' := by obtain ⟨r, e, q⟩ := w; exact ⟨r, e, h r q⟩
theorem W.ret {α : Type} {x : α} {Q : α → Prop} (h : Q x) : W (some x) Q := ⟨x, rfl, h⟩
theorem W.bind {α β : Type} {m : Option α} {k : α → Option β} {Q : β → Prop} (w : W m fun x => W (k x) Q) : W (m.bind k) Q := by obtain ⟨r, e, q⟩ := w; rw [e]; exact q
theorem W.ite {α : Type} {b : Bool} {x y : Option α} {Q : α → Prop} (h1 : b = true → W x Q) (h2 : b = false → W y Q) : W (Ac b x y) Q := by cases b; exact h2 rfl; exact h1 rfl
theorem W.Mu {α : Type} {p : Prop} [Decidable p] {x y : Option α} {Q : α → Prop} (h1 : p → W x Q) (h2 : ¬ p → W y Q) : W (Ac (decide p) x y) Q := by by_cases h : p <;> simp [h, h1, h2]
theorem W.Ca {α : Type} {b : Bool} {x : Option α} {Q : α → Prop} (h1 : b = true) (h2 : W x Q) : W (Ca b x) Q := by rw [h1]; exact h2
theorem W.loop {σ ρ : Type} {step : σ → Option (σ ⊕ ρ)} {s : σ} {Q : ρ → Prop} (inv : σ → Prop) (μ : σ → Nat) (hi : inv s)
  (hs : ∀ s, inv s → W (step s) (fun r => match r with | .inl s' => inv s' ∧ μ s' < μ s | .inr r => Q r)) : W (Av.loop step s) Q := by
 refine TP inv μ Q (fun s hi => ?_) s hi
 obtain ⟨r, e, q⟩ := hs s hi
 cases r with
 | inl s' => exact .inl ⟨s', e, q⟩
 | inr r => exact .inr ⟨r, e, q⟩
theorem Vl {n : Nat} {u : Int} (h : 0 ≤ u ∧ u ≤ n) : TU n none (some u) = some (0, u.toNat) := by simp only [TU]; rw [if_pos h]
theorem WG {n : Nat} {l : Int} (h : 0 ≤ l ∧ l ≤ n) : TU n (some l) none = some (l.toNat, n) := by simp only [TU]; rw [if_pos h]
theorem Tg {n : Nat} {l u : Int} (h : 0 ≤ l ∧ l ≤ u ∧ u ≤ n) : TU n (some l) (some u) = some (l.toNat, u.toNat) := by simp only [TU]; rw [if_pos (by omega), if_pos (by omega)]
theorem Gy (b : UInt8) : (0 : Int) ≤ (b.toNat : Int) ∧ (b.toNat : Int) ≤ 255 := by have := b.toNat_lt; omega
theorem Ff {k : Nat} (h : k < 4611686018427387904) : IntKind.i64.wrap ((k : Int) + 1) = ((k + 1 : Nat) : Int) := by rw [J4 (by omega) (by omega)]; omega
theorem Uz {α : Type} {l : List α} {i : Nat} {x : α} (h : l[i]? = some x) : HO l (i : Int) = some x := by
 unfold HO
 rw [if_pos (by omega), Int.toNat_natCast, h]
theorem L4 {s : List UInt8} {i : Nat} (h : i ≤ s.length) : HX s (some (i : Int)) none = some (s.drop i) := by
 unfold HX
 rw [WG ⟨by omega, by omega⟩]
 simp only [Option.map_some, Int.toNat_natCast]
 rw [List.take_of_length_le (by simp)]
theorem SU {s : List UInt8} {i : Nat} (h : i ≤ s.length) : HX s none (some (i : Int)) = some (s.take i) := by
 unfold HX
 rw [Vl ⟨by omega, by omega⟩]
 simp
theorem II {s : List UInt8} {i j : Nat} (h : i ≤ j) (h2 : j ≤ s.length) : HX s (some (i : Int)) (some (j : Int)) = some ((s.drop i).take (j - i)) := by
 unfold HX
 rw [Tg ⟨by omega, by omega, by omega⟩]
 simp
theorem Im {b n : Nat} (h : n ≤ 1099511627776) (h2 : n * b ≤ 1099511627776) : Lw b n = true := decide_eq_true ⟨h, h2⟩
theorem W.list {α σ τ ρ : Type} {step : τ → Option (τ ⊕ ρ)} {l : List α} {Q : ρ → Prop} (enc : σ → Nat → τ) (P : σ → Nat → Prop)
  (hend : ∀ s, P s l.length → W (step (enc s l.length)) fun o => match o with | .inl _ => False | .inr r => Q r)
  (hstep : ∀ s i (hi : i < l.length), P s i → W (step (enc s i)) fun o => match o with | .inl t => ∃ s', t = enc s' (i + 1) ∧ P s' (i + 1) | .inr r => Q r) (s : σ) (h0 : P s 0) : W (Av.loop step (enc s 0)) Q := by
 have key : ∀ (k i : Nat) (s : σ), i + k = l.length → P s i → W (Av.loop step (enc s i)) Q := by
  intro k
  induction k with
  | zero =>
   intro i s hi hp
   obtain rfl : i = l.length := by omega
   obtain ⟨o, e, q⟩ := hend s hp
   cases o with
   | inl t => exact q.elim
   | inr r => exact ⟨r, El e, q⟩
  | succ k ih =>
   intro i s hi hp
   obtain ⟨o, e, q⟩ := hstep s i (by omega) hp
   cases o with
   | inl t =>
    obtain ⟨s', rfl, hp'⟩ := q
    rw [Jg e]
    exact ih (i + 1) s' (by omega) hp'
   | inr r => exact ⟨r, El e, q⟩
 exact key l.length 0 s (by omega) h0
theorem Fh {α : Type} {l : List α} {i : Nat} (h : i < l.length) : HO l (i : Int) = some l[i] := Uz (List.getElem?_eq_getElem h)
theorem CP {l : List UInt8} {i : Nat} (h : i < l.length) : KW l (i : Int) = some (l[i].toNat : Int) := VD (List.getElem?_eq_getElem h)
theorem UT {b : UInt8} {t : List UInt8} : KW (b :: t) 0 = some (b.toNat : Int) := rfl
end Go.Av
end
/-
 A part.
-/
section
namespace Go.Av
set_option linter.unusedVariables false
set_option linter.unusedSimpArgs false
structure VF (P : Program) (t : TypeId) {K : Type} [DecidableEq K] (ek : K → AB) : Prop where
 ok : ∀ x, FQ P 20 t (ek x) = true
 eq : ∀ x y, IG P 10000 t (ek x) (ek y) = some (decide (x = y))
 same : ∀ x, La (ek x) (ek x) = true
theorem Rv {P : Program} {t : TypeId} (hu : P.underlying t = some .string) : VF P t (fun s : List UInt8 => AB.str s) := by
 refine ⟨fun x => ?_, fun x y => ?_, fun x => by simp [La, Nu]⟩
 ·unfold FQ; rw [hu]
 ·show IG P (9999 + 1) t _ _ = _
  unfold IG
  rw [hu]
  simp only [Option.some.injEq]
  rw [Bool.eq_iff_iff]; simp
section
variable {K V : Type} [DecidableEq K]
def FC : List (K × V) → K → Option V
 | [], _ => none
 | (k', v) :: r, k => if k = k' then some v else FC r k
def IA : List (K × V) → K → V → List (K × V)
 | [], k, v => [(k, v)]
 | (k', v') :: r, k, v => if k = k' then (k, v) :: r else (k', v') :: IA r k v
def R4 : List (K × V) → K → List (K × V)
 | [], _ => []
 | (k', v') :: r, k => if k = k' then r else (k', v') :: R4 r k
def CL (ek : K → AB) (ev : V → AB) (m : List (K × V)) : List (AB × AB) := m.map fun p => (ek p.1, ev p.2)
variable {P : Program} {t kt et : TypeId} {ek : K → AB} {ev : V → AB} {g : Gd} {h : AJ} {L F : List Ck}
theorem Lr (E : VF P kt ek) (k : K) (v : V) : ∀ (m : List (K × V)) (i : Nat),
  (DE P kt (ek k) (CL ek ev m) i = some none ∧ FC m k = none ∧ CL ek ev (IA m k v) = CL ek ev m ++ [(ek k, ev v)] ∧ R4 m k = m) ∨
  (∃ j w, DE P kt (ek k) (CL ek ev m) i = some (some (i + j, ev w)) ∧ FC m k = some w ∧ (CL ek ev m)[j]? = some (ek k, ev w) ∧ CL ek ev (IA m k v) = (CL ek ev m).set j (ek k, ev v) ∧ CL ek ev (R4 m k) = (CL ek ev m).eraseIdx j)
 | [], i => .inl ⟨rfl, rfl, rfl, rfl⟩
 | (k', v') :: r, i => by
  have e1 : CL ek ev ((k', v') :: r) = (ek k', ev v') :: CL ek ev r := rfl
  rw [e1, DE, E.eq]
  by_cases hk : k = k'
  ·subst hk
   refine .inr ⟨0, v', ?_, ?_, rfl, ?_, ?_⟩
   ·simp
   ·simp [FC]
   ·simp [IA, CL]
   ·simp [R4]
  ·rw [decide_eq_false hk]
   rcases Lr E k v r (i + 1) with ⟨h1, h2, h3, h4⟩ | ⟨j, w, h1, h2, h3, h4, h5⟩
   ·refine .inl ⟨h1, ?_, ?_, ?_⟩
    ·rw [FC, if_neg hk]; exact h2
    ·rw [IA, if_neg hk]
     show (ek k', ev v') :: CL ek ev (IA r k v) = _
     rw [h3]; rfl
    ·rw [R4, if_neg hk, h4]
   ·refine .inr ⟨j + 1, w, ?_, ?_, ?_, ?_, ?_⟩
    ·dsimp only
     rw [h1]; simp; omega
    ·rw [FC, if_neg hk]; exact h2
    ·rw [List.getElem?_cons_succ]; exact h3
    ·rw [IA, if_neg hk]
     show (ek k', ev v') :: CL ek ev (IA r k v) = _
     rw [h4]; rfl
    ·rw [R4, if_neg hk]
     show (ek k', ev v') :: CL ek ev (R4 r k) = _
     rw [h5]; rfl
theorem HH.UH (E : VF P kt ek) (a : HH g h L F) (n : Nat) {id : Nat} {m : List (K × V)} (hk : L[n]? = some (.obj id (.map 2 (CL ek ev m)))) (hu : P.underlying t = some (.map kt et)) {z : V} (hz : HA P et = some (ev z)) (k : K) :
  S3 P h t (some id) (ek k) = some (ev ((FC m k).getD z), (FC m k).isSome) := by
 have hg := a.get n hk
 unfold S3
 rw [hu]
 simp only [E.ok, if_true, Ui, hg]
 rw [if_pos (by decide)]
 dsimp only
 rcases Lr (ev := ev) E k z m 0 with ⟨h1, h2, _, _⟩ | ⟨j, w, h1, h2, _, _, _⟩
 ·rw [h1, h2]; simp [hz]
 ·rw [h1, h2]; rfl
theorem HH.U6 (E : VF P kt ek) (a : HH g h L F) (n : Nat) {id : Nat} {m : List (K × V)} (hk : L[n]? = some (.obj id (.map 2 (CL ek ev m)))) (hu : P.underlying t = some (.map kt et)) (k : K) (v : V) (hz : Fl g h (ev v) = some (ev v, h) := by rfl) :
  ∃ h', WU P g h t (some id) (ek k) (ev v) = some h' ∧ HH g h' (L.set n (.obj id (.map 2 (CL ek ev (IA m k v))))) F := by
 have hg := a.get n hk
 have hm : g.may id = true := a.P0 hk (by simp [Ck.ids])
 refine ⟨h.set id (.map 2 (CL ek ev (IA m k v))), ?_, a.set n _ hk⟩
 unfold WU GN
 rw [hz]
 show H9 P g h t (.map (some id)) (ek k) (ev v) = _
 unfold H9
 rw [hu]
 simp only [E.ok, hm, and_self, if_true, hg]
 rcases Lr (ev := ev) E k v m 0 with ⟨h1, h2, h3, _⟩ | ⟨j, w, h1, h2, h3, h4, _⟩
 ·rw [h1, h3]
 ·rw [h1]
  simp only [Nat.zero_add, h3, E.same, if_true, h4]
omit [DecidableEq K] in
theorem HH.Wv (a : HH g h L F) (n : Nat) {id : Nat} {m : List (K × V)} (hk : L[n]? = some (.obj id (.map 2 (CL ek ev m)))) : XQ h (some id) = some (m.length : Int) := by
 unfold XQ Ui
 simp [a.get n hk, CL]
end
section
variable {C : HS} {S : Self} {g : Gd} {h h1 : AJ} {fr : Fr} {op : Op}
theorem UX {m : Option Nat} {n : Int} (hs : UK C.P fr op = some m) (hl : XQ h m = some n) : Bs C S g h fr op = some (.int .i64 n, h) := by
 unfold UK at hs
 split at hs
 ·rename_i as ts
  split at hs
  ·rename_i x t hx ht
   split at hs
   ·rename_i kt et m' hu hm
    injection hs with hs
    subst hs
    have hc : BX C.P (.call { callee := .builtin .len, args := as, argTypes := ts }) = 1 := by simp [BX, ht, hu]
    unfold XQ Ui at hl
    cases m' with
    | none =>
     simp only [Option.map_some, List.length_nil, Option.some.injEq] at hl
     subst hl
     rw [Ft (by rw [hc]; decide)]
     simp [Iw, hc, Dw, hx, hm, FE, KK, Tn, ht, hu]
    | some id =>
     simp only [Option.map_eq_some_iff] at hl
     obtain ⟨es, h2, rfl⟩ := hl
     split at h2
     ·rename_i st es' hg
      split at h2
      ·rename_i hst
       injection h2 with h2
       subst h2
       rw [Ft (by rw [hc]; decide)]
       simp [Iw, hc, Dw, hx, hm, FE, KK, Tn, ht, hu, hg, hst]
      ·cases h2
     ·cases h2
   ·cases hs
  ·cases hs
 ·cases hs
end
end Go.Av
end
