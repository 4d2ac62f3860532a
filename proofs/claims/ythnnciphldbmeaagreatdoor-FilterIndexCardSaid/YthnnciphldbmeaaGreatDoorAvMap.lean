/-
  AV: maps of one's own, as plain lists of keys and values.
-/
import Derived.Test.YthnnciphldbmeaaGreatDoorAvTy
namespace Go.Av
set_option linter.unusedVariables false
set_option linter.unusedSimpArgs false
structure WD (P : Program) (t : TypeId) {K : Type} [DecidableEq K] (ek : K → AA) : Prop where
 ok : ∀ x, FM P 20 t (ek x) = true
 eq : ∀ x y, IF P 10000 t (ek x) (ek y) = some (decide (x = y))
 same : ∀ x, L8 (ek x) (ek x) = true
theorem Rk {P : Program} {t : TypeId} (hu : P.underlying t = some .string) : WD P t (fun s : List UInt8 => AA.str s) := by
 refine ⟨fun x => ?_, fun x y => ?_, fun x => by simp [L8, Oi]⟩
 ·unfold FM; rw [hu]
 ·show IF P (9999 + 1) t _ _ = _
  unfold IF
  rw [hu]
  simp only [Option.some.injEq]
  rw [Bool.eq_iff_iff]; simp
section
variable {K V : Type} [DecidableEq K]
def Di : List (K × V) → K → Option V
 | [], _ => none
 | (k', v) :: r, k => if k = k' then some v else Di r k
def F7 : List (K × V) → K → V → List (K × V)
 | [], k, v => [(k, v)]
 | (k', v') :: r, k, v => if k = k' then (k, v) :: r else (k', v') :: F7 r k v
def Su : List (K × V) → K → List (K × V)
 | [], _ => []
 | (k', v') :: r, k => if k = k' then r else (k', v') :: Su r k
def BS (ek : K → AA) (ev : V → AA) (m : List (K × V)) : List (AA × AA) := m.map fun p => (ek p.1, ev p.2)
variable {P : Program} {t kt et : TypeId} {ek : K → AA} {ev : V → AA} {g : Gd} {h : AH} {L F : List Ck}
theorem MI (E : WD P kt ek) (k : K) (v : V) : ∀ (m : List (K × V)) (i : Nat),
  (Cq P kt (ek k) (BS ek ev m) i = some none ∧ Di m k = none ∧ BS ek ev (F7 m k v) = BS ek ev m ++ [(ek k, ev v)] ∧ Su m k = m) ∨
  (∃ j w, Cq P kt (ek k) (BS ek ev m) i = some (some (i + j, ev w)) ∧ Di m k = some w ∧ (BS ek ev m)[j]? = some (ek k, ev w) ∧ BS ek ev (F7 m k v) = (BS ek ev m).set j (ek k, ev v) ∧ BS ek ev (Su m k) = (BS ek ev m).eraseIdx j)
 | [], i => .inl ⟨rfl, rfl, rfl, rfl⟩
 | (k', v') :: r, i => by
  have e1 : BS ek ev ((k', v') :: r) = (ek k', ev v') :: BS ek ev r := rfl
  rw [e1, Cq, E.eq]
  by_cases hk : k = k'
  ·subst hk
   refine .inr ⟨0, v', ?_, ?_, rfl, ?_, ?_⟩
   ·simp
   ·simp [Di]
   ·simp [F7, BS]
   ·simp [Su]
  ·rw [decide_eq_false hk]
   rcases MI E k v r (i + 1) with ⟨h1, h2, h3, h4⟩ | ⟨j, w, h1, h2, h3, h4, h5⟩
   ·refine .inl ⟨h1, ?_, ?_, ?_⟩
    ·rw [Di, if_neg hk]; exact h2
    ·rw [F7, if_neg hk]
     show (ek k', ev v') :: BS ek ev (F7 r k v) = _
     rw [h3]; rfl
    ·rw [Su, if_neg hk, h4]
   ·refine .inr ⟨j + 1, w, ?_, ?_, ?_, ?_, ?_⟩
    ·dsimp only
     rw [h1]; simp; omega
    ·rw [Di, if_neg hk]; exact h2
    ·rw [List.getElem?_cons_succ]; exact h3
    ·rw [F7, if_neg hk]
     show (ek k', ev v') :: BS ek ev (F7 r k v) = _
     rw [h4]; rfl
    ·rw [Su, if_neg hk]
     show (ek k', ev v') :: BS ek ev (Su r k) = _
     rw [h5]; rfl
theorem HH.T3 (E : WD P kt ek) (a : HH g h L F) (n : Nat) {id : Nat} {m : List (K × V)} (hk : L[n]? = some (.obj id (.map 2 (BS ek ev m)))) (hu : P.underlying t = some (.map kt et)) {z : V} (hz : HM P et = some (ev z)) (k : K) :
  TK P h t (some id) (ek k) = some (ev ((Di m k).getD z), (Di m k).isSome) := by
 have hg := a.get n hk
 unfold TK
 rw [hu]
 simp only [E.ok, if_true, Vg, hg]
 rw [if_pos (by decide)]
 dsimp only
 rcases MI (ev := ev) E k z m 0 with ⟨h1, h2, _, _⟩ | ⟨j, w, h1, h2, _, _, _⟩
 ·rw [h1, h2]; simp [hz]
 ·rw [h1, h2]; rfl
theorem HH.V5 (E : WD P kt ek) (a : HH g h L F) (n : Nat) {id : Nat} {m : List (K × V)} (hk : L[n]? = some (.obj id (.map 2 (BS ek ev m)))) (hu : P.underlying t = some (.map kt et)) (k : K) (v : V) (hz : Fu g h (ev v) = some (ev v, h) := by rfl) :
  ∃ h', Xi P g h t (some id) (ek k) (ev v) = some h' ∧ HH g h' (L.set n (.obj id (.map 2 (BS ek ev (F7 m k v))))) F := by
 have hg := a.get n hk
 have hm : g.may id = true := a.RI hk (by simp [Ck.ids])
 refine ⟨h.set id (.map 2 (BS ek ev (F7 m k v))), ?_, a.set n _ hk⟩
 unfold Xi Gb
 rw [hz]
 show IN P g h t (.map (some id)) (ek k) (ev v) = _
 unfold IN
 rw [hu]
 simp only [E.ok, hm, and_self, if_true, hg]
 rcases MI (ev := ev) E k v m 0 with ⟨h1, h2, h3, _⟩ | ⟨j, w, h1, h2, h3, h4, _⟩
 ·rw [h1, h3]
 ·rw [h1]
  simp only [Nat.zero_add, h3, E.same, if_true, h4]
omit [DecidableEq K] in
theorem HH.Xm (a : HH g h L F) (n : Nat) {id : Nat} {m : List (K × V)} (hk : L[n]? = some (.obj id (.map 2 (BS ek ev m)))) : YY h (some id) = some (m.length : Int) := by
 unfold YY Vg
 simp [a.get n hk, BS]
end
section
variable {C : Hc} {S : Self} {g : Gd} {h h1 : AH} {fr : Fr} {op : Op}
theorem Vj {m : Option Nat} {n : Int} (hs : Va C.P fr op = some m) (hl : YY h m = some n) : Bb C S g h fr op = some (.int .i64 n, h) := by
 unfold Va at hs
 split at hs
 ·rename_i as ts
  split at hs
  ·rename_i x t hx ht
   split at hs
   ·rename_i kt et m' hu hm
    injection hs with hs
    subst hs
    have hc : BC C.P (.call { callee := .builtin .len, args := as, argTypes := ts }) = 1 := by simp [BC, ht, hu]
    unfold YY Vg at hl
    cases m' with
    | none =>
     simp only [Option.map_some, List.length_nil, Option.some.injEq] at hl
     subst hl
     rw [FP (by rw [hc]; decide)]
     simp [IV, hc, DW, hx, hm, Er, Kh, Vh, ht, hu]
    | some id =>
     simp only [Option.map_eq_some_iff] at hl
     obtain ⟨es, h2, rfl⟩ := hl
     split at h2
     ·rename_i st es' hg
      split at h2
      ·rename_i hst
       injection h2 with h2
       subst h2
       rw [FP (by rw [hc]; decide)]
       simp [IV, hc, DW, hx, hm, Er, Kh, Vh, ht, hu, hg, hst]
      ·cases h2
     ·cases h2
   ·cases hs
  ·cases hs
 ·cases hs
end
end Go.Av
