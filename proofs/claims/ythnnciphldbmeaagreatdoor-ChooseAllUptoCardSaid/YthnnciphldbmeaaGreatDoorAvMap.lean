/-
  AV: maps of one's own, as plain lists of keys and values.
-/
import Derived.Test.YthnnciphldbmeaaGreatDoorAvTy
namespace Go.Av
set_option linter.unusedVariables false
set_option linter.unusedSimpArgs false
structure Ut (P : Program) (t : TypeId) {K : Type} [DecidableEq K] (ek : K → AA) : Prop where
 ok : ∀ x, FP P 20 t (ek x) = true
 eq : ∀ x y, II P 10000 t (ek x) (ek y) = some (decide (x = y))
 same : ∀ x, Lb (ek x) (ek x) = true
theorem Ob {P : Program} {t : TypeId} (hu : P.underlying t = some .string) : Ut P t (fun s : List UInt8 => AA.str s) := by
 refine ⟨fun x => ?_, fun x y => ?_, fun x => by simp [Lb, OC]⟩
 ·unfold FP; rw [hu]
 ·show II P (9999 + 1) t _ _ = _
  unfold II
  rw [hu]
  simp only [Option.some.injEq]
  rw [Bool.eq_iff_iff]; simp
section
variable {K V : Type} [DecidableEq K]
def D4 : List (K × V) → K → Option V
 | [], _ => none
 | (k', v) :: r, k => if k = k' then some v else D4 r k
def HB : List (K × V) → K → V → List (K × V)
 | [], k, v => [(k, v)]
 | (k', v') :: r, k, v => if k = k' then (k, v) :: r else (k', v') :: HB r k v
def Rl : List (K × V) → K → List (K × V)
 | [], _ => []
 | (k', v') :: r, k => if k = k' then r else (k', v') :: Rl r k
def BR (ek : K → AA) (ev : V → AA) (m : List (K × V)) : List (AA × AA) := m.map fun p => (ek p.1, ev p.2)
variable {P : Program} {t kt et : TypeId} {ek : K → AA} {ev : V → AA} {g : Gd} {h : AH} {L F : List Ck}
theorem Lx (E : Ut P kt ek) (k : K) (v : V) : ∀ (m : List (K × V)) (i : Nat),
  (Cu P kt (ek k) (BR ek ev m) i = some none ∧ D4 m k = none ∧ BR ek ev (HB m k v) = BR ek ev m ++ [(ek k, ev v)] ∧ Rl m k = m) ∨
  (∃ j w, Cu P kt (ek k) (BR ek ev m) i = some (some (i + j, ev w)) ∧ D4 m k = some w ∧ (BR ek ev m)[j]? = some (ek k, ev w) ∧ BR ek ev (HB m k v) = (BR ek ev m).set j (ek k, ev v) ∧ BR ek ev (Rl m k) = (BR ek ev m).eraseIdx j)
 | [], i => .inl ⟨rfl, rfl, rfl, rfl⟩
 | (k', v') :: r, i => by
  have e1 : BR ek ev ((k', v') :: r) = (ek k', ev v') :: BR ek ev r := rfl
  rw [e1, Cu, E.eq]
  by_cases hk : k = k'
  ·subst hk
   refine .inr ⟨0, v', ?_, ?_, rfl, ?_, ?_⟩
   ·simp
   ·simp [D4]
   ·simp [HB, BR]
   ·simp [Rl]
  ·rw [decide_eq_false hk]
   rcases Lx E k v r (i + 1) with ⟨h1, h2, h3, h4⟩ | ⟨j, w, h1, h2, h3, h4, h5⟩
   ·refine .inl ⟨h1, ?_, ?_, ?_⟩
    ·rw [D4, if_neg hk]; exact h2
    ·rw [HB, if_neg hk]
     show (ek k', ev v') :: BR ek ev (HB r k v) = _
     rw [h3]; rfl
    ·rw [Rl, if_neg hk, h4]
   ·refine .inr ⟨j + 1, w, ?_, ?_, ?_, ?_, ?_⟩
    ·dsimp only
     rw [h1]; simp; omega
    ·rw [D4, if_neg hk]; exact h2
    ·rw [List.getElem?_cons_succ]; exact h3
    ·rw [HB, if_neg hk]
     show (ek k', ev v') :: BR ek ev (HB r k v) = _
     rw [h4]; rfl
    ·rw [Rl, if_neg hk]
     show (ek k', ev v') :: BR ek ev (Rl r k) = _
     rw [h5]; rfl
theorem HH.Qe (E : Ut P kt ek) (a : HH g h L F) (n : Nat) {id : Nat} {m : List (K × V)} (hk : L[n]? = some (.obj id (.map 2 (BR ek ev m)))) (hu : P.underlying t = some (.map kt et)) {z : V} (hz : HD P et = some (ev z)) (k : K) :
  R8 P h t (some id) (ek k) = some (ev ((D4 m k).getD z), (D4 m k).isSome) := by
 have hg := a.get n hk
 unfold R8
 rw [hu]
 simp only [E.ok, if_true, T0, hg]
 rw [if_pos (by decide)]
 dsimp only
 rcases Lx (ev := ev) E k z m 0 with ⟨h1, h2, _, _⟩ | ⟨j, w, h1, h2, _, _, _⟩
 ·rw [h1, h2]; simp [hz]
 ·rw [h1, h2]; rfl
theorem HH.Tp (E : Ut P kt ek) (a : HH g h L F) (n : Nat) {id : Nat} {m : List (K × V)} (hk : L[n]? = some (.obj id (.map 2 (BR ek ev m)))) (hu : P.underlying t = some (.map kt et)) (k : K) (v : V) (hz : Fx g h (ev v) = some (ev v, h) := by rfl) :
  ∃ h', WY P g h t (some id) (ek k) (ev v) = some h' ∧ HH g h' (L.set n (.obj id (.map 2 (BR ek ev (HB m k v))))) F := by
 have hg := a.get n hk
 have hm : g.may id = true := a.QG hk (by simp [Ck.ids])
 refine ⟨h.set id (.map 2 (BR ek ev (HB m k v))), ?_, a.set n _ hk⟩
 unfold WY GP
 rw [hz]
 show IJ P g h t (.map (some id)) (ek k) (ev v) = _
 unfold IJ
 rw [hu]
 simp only [E.ok, hm, and_self, if_true, hg]
 rcases Lx (ev := ev) E k v m 0 with ⟨h1, h2, h3, _⟩ | ⟨j, w, h1, h2, h3, h4, _⟩
 ·rw [h1, h3]
 ·rw [h1]
  simp only [Nat.zero_add, h3, E.same, if_true, h4]
omit [DecidableEq K] in
theorem HH.Wo (a : HH g h L F) (n : Nat) {id : Nat} {m : List (K × V)} (hk : L[n]? = some (.obj id (.map 2 (BR ek ev m)))) : XC h (some id) = some (m.length : Int) := by
 unfold XC T0
 simp [a.get n hk, BR]
end
section
variable {C : HU} {S : Self} {g : Gd} {h h1 : AH} {fr : Fr} {op : Op}
theorem Uc {m : Option Nat} {n : Int} (hs : TT C.P fr op = some m) (hl : XC h m = some n) : Bc C S g h fr op = some (.int .i64 n, h) := by
 unfold TT at hs
 split at hs
 ·rename_i as ts
  split at hs
  ·rename_i x t hx ht
   split at hs
   ·rename_i kt et m' hu hm
    injection hs with hs
    subst hs
    have hc : BE C.P (.call { callee := .builtin .len, args := as, argTypes := ts }) = 1 := by simp [BE, ht, hu]
    unfold XC T0 at hl
    cases m' with
    | none =>
     simp only [Option.map_some, List.length_nil, Option.some.injEq] at hl
     subst hl
     rw [FQ (by rw [hc]; decide)]
     simp [Ih, hc, DX, hx, hm, Ew, KJ, Te, ht, hu]
    | some id =>
     simp only [Option.map_eq_some_iff] at hl
     obtain ⟨es, h2, rfl⟩ := hl
     split at h2
     ·rename_i st es' hg
      split at h2
      ·rename_i hst
       injection h2 with h2
       subst h2
       rw [FQ (by rw [hc]; decide)]
       simp [Ih, hc, DX, hx, hm, Ew, KJ, Te, ht, hu, hg, hst]
      ·cases h2
     ·cases h2
   ·cases hs
  ·cases hs
 ·cases hs
end
end Go.Av
