/-
  AV: maps of one's own, as plain lists of keys and values.
-/
import Derived.Test.YtiodcbipjnmpgaaAvTy
namespace Go.Av
set_option linter.unusedVariables false
set_option linter.unusedSimpArgs false
theorem iteB_an (b c : Bool) : iteB b (some c) (some false) = some (b && c) := by cases b <;> rfl
def optM {α β : Type} (o : Option α) (f : α → Option β) (n : Option β) : Option β := match o with | some x => f x | none => n
theorem optM_some {α β : Type} {o : Option α} {f : α → Option β} {n : Option β} {b : β} (h : optM o f n = some b) : (∃ x, o = some x ∧ f x = some b) ∨ (o = none ∧ n = some b) := by
 cases o with
 | some x => exact .inl ⟨x, rfl, h⟩
 | none => exact .inr ⟨rfl, h⟩
structure KeyE (P : Program) (t : TypeId) {K : Type} [DecidableEq K] (ek : K → AVal) : Prop where
 ok : ∀ x, keyOkA P 20 t (ek x) = true
 eq : ∀ x y, eqA P 10000 t (ek x) (ek y) = some (decide (x = y))
 same : ∀ x, sameA (ek x) (ek x) = true
section
variable {K V : Type} [DecidableEq K]
def mfind : List (K × V) → K → Option V
 | [], _ => none
 | (k', v) :: r, k => if k = k' then some v else mfind r k
def mput : List (K × V) → K → V → List (K × V)
 | [], k, v => [(k, v)]
 | (k', v') :: r, k, v => if k = k' then (k, v) :: r else (k', v') :: mput r k v
def mdel : List (K × V) → K → List (K × V)
 | [], _ => []
 | (k', v') :: r, k => if k = k' then r else (k', v') :: mdel r k
def encM (ek : K → AVal) (ev : V → AVal) (m : List (K × V)) : List (AVal × AVal) := m.map fun p => (ek p.1, ev p.2)
variable {P : Program} {t kt et : TypeId} {ek : K → AVal} {ev : V → AVal} {g : Gd} {h : AHeap} {L F : List Ck}
theorem findA_spec (E : KeyE P kt ek) (k : K) (v : V) : ∀ (m : List (K × V)) (i : Nat),
  (findA P kt (ek k) (encM ek ev m) i = some none ∧ mfind m k = none ∧ encM ek ev (mput m k v) = encM ek ev m ++ [(ek k, ev v)] ∧ mdel m k = m) ∨
  (∃ j w, findA P kt (ek k) (encM ek ev m) i = some (some (i + j, ev w)) ∧ mfind m k = some w ∧ (encM ek ev m)[j]? = some (ek k, ev w) ∧ encM ek ev (mput m k v) = (encM ek ev m).set j (ek k, ev v) ∧ encM ek ev (mdel m k) = (encM ek ev m).eraseIdx j)
 | [], i => .inl ⟨rfl, rfl, rfl, rfl⟩
 | (k', v') :: r, i => by
  have e1 : encM ek ev ((k', v') :: r) = (ek k', ev v') :: encM ek ev r := rfl
  rw [e1, findA, E.eq]
  by_cases hk : k = k'
  ·subst hk
   refine .inr ⟨0, v', ?_, ?_, rfl, ?_, ?_⟩
   ·simp
   ·simp [mfind]
   ·simp [mput, encM]
   ·simp [mdel]
  ·rw [decide_eq_false hk]
   rcases findA_spec E k v r (i + 1) with ⟨h1, h2, h3, h4⟩ | ⟨j, w, h1, h2, h3, h4, h5⟩
   ·refine .inl ⟨h1, ?_, ?_, ?_⟩
    ·rw [mfind, if_neg hk]; exact h2
    ·rw [mput, if_neg hk]
     show (ek k', ev v') :: encM ek ev (mput r k v) = _
     rw [h3]; rfl
    ·rw [mdel, if_neg hk, h4]
   ·refine .inr ⟨j + 1, w, ?_, ?_, ?_, ?_, ?_⟩
    ·dsimp only
     rw [h1]; simp; omega
    ·rw [mfind, if_neg hk]; exact h2
    ·rw [List.getElem?_cons_succ]; exact h3
    ·rw [mput, if_neg hk]
     show (ek k', ev v') :: encM ek ev (mput r k v) = _
     rw [h4]; rfl
    ·rw [mdel, if_neg hk]
     show (ek k', ev v') :: encM ek ev (mdel r k) = _
     rw [h5]; rfl
theorem HH.mset (E : KeyE P kt ek) (a : HH g h L F) (n : Nat) {id : Nat} {m : List (K × V)} (hk : L[n]? = some (.obj id (.map 2 (encM ek ev m)))) (hu : P.underlying t = some (.map kt et)) (k : K) (v : V) (hz : frz1 g h (ev v) = some (ev v, h) := by rfl) :
  ∃ h', mpS P g h t (some id) (ek k) (ev v) = some h' ∧ HH g h' (L.set n (.obj id (.map 2 (encM ek ev (mput m k v))))) F := by
 have hg := a.get n hk
 have hm : g.may id = true := a.mayK hk (by simp [Ck.ids])
 refine ⟨h.set id (.map 2 (encM ek ev (mput m k v))), ?_, a.set n _ hk⟩
 unfold mpS mapSetZ
 rw [hz]
 show mapSetA P g h t (.map (some id)) (ek k) (ev v) = _
 unfold mapSetA
 rw [hu]
 simp only [E.ok, hm, and_self, if_true, hg]
 rcases findA_spec (ev := ev) E k v m 0 with ⟨h1, h2, h3, _⟩ | ⟨j, w, h1, h2, h3, h4, _⟩
 ·rw [h1, h3]
 ·rw [h1]
  simp only [Nat.zero_add, h3, E.same, if_true, h4]
theorem HH.msetZ (E : KeyE P kt ek) {r : Option Nat} {e : TypeId} {cs : List AVal} {q z : Nat} (a : HH g h (.lst r e cs :: L) F) (n : Nat) {id : Nat} {m : List (K × V)} (hk : L[n]? = some (.obj id (.map 2 (encM ek ev m)))) (hu : P.underlying t = some (.map kt et)) (k : K) (v : V)
  (hn : cs.length = q * z) (hz : z ≠ 0) (hq : q ≠ 0) (hv : ev v = .vsl q cs) :
  ∃ h', mpS P g h t (some id) (ek k) (rowV r q) = some h' ∧ HH g h' (L.set n (.obj id (.map 2 (encM ek ev (mput m k v))))) F ∧ frz1 g h' (rowV r q) = some (ev v, h') := by
 have h0 : (Ck.lst r e cs :: L)[0]? = some (.lst r e cs) := rfl
 cases r with
 | none =>
  exfalso
  have hc : cs = [] := a.mem h0
  subst hc
  have h1 : q * z = 0 := by simpa using hn.symm
  rcases Nat.mul_eq_zero.1 h1 with h | h
  ·exact hq h
  ·exact hz h
 | some i =>
  have hg : h.get i = some (.cells (some e) 2 cs) := a.mem h0
  have hid := h.lt_of_get hg
  have hb : Nat.beq q 0 = false := by cases q; exact absurd rfl hq; rfl
  obtain ⟨c, cs', hcs⟩ : ∃ c cs', cs = c :: cs' := by
   cases cs with
   | nil =>
    exfalso
    have h1 : q * z = 0 := by simpa using hn.symm
    rcases Nat.mul_eq_zero.1 h1 with h | h
    ·exact hq h
    ·exact hz h
   | cons c cs' => exact ⟨c, cs', rfl⟩
  have hf : frz1 g h (rowV (some i) q) = some (.vsl q cs, h.set i (.cells (some e) 0 cs)) := by
   simp only [rowV, frz1, Option.map_some, hb, cond_false, hg, a.mayK h0 (i := i) (by simp [Ck.ids]), cond_true]
  have b := a.upd1 (d := .obj i (.cells (some e) 0 cs)) (h' := h.set i (.cells (some e) 0 cs)) h0 (by simp) (fun j _ hi => h.get_set_ne _ hid (by simpa [Ck.ids] using hi)) (h.get_set_same _ hid)
   (fun j hj => .inl (by simpa [Ck.ids] using hj)) (fun j hj => a.mayK h0 (by simpa [Ck.ids] using hj))
  have b' : HH g (h.set i (.cells (some e) 0 cs)) (.obj i (.cells (some e) 0 cs) :: L) F := b
  have hz1 : frz1 g (h.set i (.cells (some e) 0 cs)) (ev v) = some (ev v, h.set i (.cells (some e) 0 cs)) := by rw [hv]; rfl
  obtain ⟨h', hx, c1⟩ := HH.mset (P := P) (t := t) (kt := kt) (et := et) (ev := ev) E b' (n + 1) hk hu k v hz1
  have g1 : h'.get i = some (.cells (some e) 0 cs) := c1.get 0 rfl
  refine ⟨h', ?_, ?_, ?_⟩
  ·unfold mpS mapSetZ at hx ⊢
   rw [hz1] at hx
   rw [hf]
   rw [hv] at hx
   exact hx
  ·have : (Ck.obj i (.cells (some e) 0 cs) :: L).set (n + 1) (.obj id (.map 2 (encM ek ev (mput m k v)))) = .obj i (.cells (some e) 0 cs) :: L.set n (.obj id (.map 2 (encM ek ev (mput m k v)))) := rfl
   rw [this] at c1
   exact c1.tail
  ·rw [hv]
   simp only [rowV, frz1, Option.map_some, hb, cond_false, g1]
   rw [hcs]
   rfl
theorem HH.mlookS (E : KeyE P kt ek) (a : HH g h L F) (n : Nat) {id : Nat} {m : List (K × V)} (hk : L[n]? = some (.obj id (.map 2 (encM ek ev m)))) (hu : P.underlying t = some (.map kt et)) {zv : AVal} (hz : zeroA P et = some zv) {k : K} {v : V} (hf : mfind m k = some v) :
  mpL P h t (some id) (ek k) = some (ev v, true) := by
 have hg := a.get n hk
 unfold mpL
 rw [hu]
 simp only [E.ok, if_true, mpE, hg]
 rw [if_pos (by decide)]
 dsimp only
 rcases findA_spec (ev := ev) E k v m 0 with ⟨h1, h2, _, _⟩ | ⟨j, w, h1, h2, _, _, _⟩
 ·rw [h2] at hf; cases hf
 ·rw [h2] at hf; cases hf; rw [h1]
theorem HH.mlookO (E : KeyE P kt ek) (a : HH g h L F) (n : Nat) {id : Nat} {m : List (K × V)} (hk : L[n]? = some (.obj id (.map 2 (encM ek ev m)))) (hu : P.underlying t = some (.map kt et)) {zv : AVal} (hz : zeroA P et = some zv) {k : K} (hf : mfind m k = none) :
  mpL P h t (some id) (ek k) = some (zv, false) := by
 have hg := a.get n hk
 unfold mpL
 rw [hu]
 simp only [E.ok, if_true, mpE, hg]
 rw [if_pos (by decide)]
 dsimp only
 cases hm : m with
 | nil => simp [encM, findA, hz]
 | cons p r =>
  rw [← hm]
  rcases findA_spec (ev := ev) E k p.2 m 0 with ⟨h1, h2, _, _⟩ | ⟨j, w, h1, h2, _, _, _⟩
  ·rw [h1]; simp [hz]
  ·rw [h2] at hf; cases hf
end
end Go.Av
