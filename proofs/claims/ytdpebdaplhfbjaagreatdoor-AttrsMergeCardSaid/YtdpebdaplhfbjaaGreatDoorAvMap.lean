/-
  AV: maps of one's own, as plain lists of keys and values.
-/
import Derived.Test.YtdpebdaplhfbjaaGreatDoorAvTy
namespace Go.Av
set_option linter.unusedVariables false
set_option linter.unusedSimpArgs false
structure KeyE (P : Program) (t : TypeId) {K : Type} [DecidableEq K] (ek : K → AVal) : Prop where
 ok : ∀ x, keyOkA P 20 t (ek x) = true
 eq : ∀ x y, eqA P 10000 t (ek x) (ek y) = some (decide (x = y))
 same : ∀ x, sameA (ek x) (ek x) = true
theorem keyS {P : Program} {t : TypeId} (hu : P.underlying t = some .string) : KeyE P t (fun s : List UInt8 => AVal.str s) := by
 refine ⟨fun x => ?_, fun x y => ?_, fun x => by simp [sameA, same1]⟩
 ·unfold keyOkA; rw [hu]
 ·show eqA P (9999 + 1) t _ _ = _
  unfold eqA
  rw [hu]
  simp only [Option.some.injEq]
  rw [Bool.eq_iff_iff]; simp
section
variable {K V : Type} [DecidableEq K]
def mfind : List (K × V) → K → Option V
 | [], _ => none
 | (k', v) :: r, k => if k = k' then some v else mfind r k
def mput : List (K × V) → K → V → List (K × V)
 | [], k, v => [(k, v)]
 | (k', v') :: r, k, v => if k = k' then (k, v) :: r else (k', v') :: mput r k v
def mdel : List (K × V) → K → List (K × V)
 | [], _ => []
 | (k', v') :: r, k => if k = k' then r else (k', v') :: mdel r k
def encM (ek : K → AVal) (ev : V → AVal) (m : List (K × V)) : List (AVal × AVal) := m.map fun p => (ek p.1, ev p.2)
variable {P : Program} {t kt et : TypeId} {ek : K → AVal} {ev : V → AVal} {g : Gd} {h : AHeap} {L F : List Ck}
theorem findA_spec (E : KeyE P kt ek) (k : K) (v : V) : ∀ (m : List (K × V)) (i : Nat),
  (findA P kt (ek k) (encM ek ev m) i = some none ∧ mfind m k = none ∧ encM ek ev (mput m k v) = encM ek ev m ++ [(ek k, ev v)] ∧ mdel m k = m) ∨
  (∃ j w, findA P kt (ek k) (encM ek ev m) i = some (some (i + j, ev w)) ∧ mfind m k = some w ∧ (encM ek ev m)[j]? = some (ek k, ev w) ∧ encM ek ev (mput m k v) = (encM ek ev m).set j (ek k, ev v) ∧ encM ek ev (mdel m k) = (encM ek ev m).eraseIdx j)
 | [], i => .inl ⟨rfl, rfl, rfl, rfl⟩
 | (k', v') :: r, i => by
  have e1 : encM ek ev ((k', v') :: r) = (ek k', ev v') :: encM ek ev r := rfl
  rw [e1, findA, E.eq]
  by_cases hk : k = k'
  ·subst hk
   refine .inr ⟨0, v', ?_, ?_, rfl, ?_, ?_⟩
   ·simp
   ·simp [mfind]
   ·simp [mput, encM]
   ·simp [mdel]
  ·rw [decide_eq_false hk]
   rcases findA_spec E k v r (i + 1) with ⟨h1, h2, h3, h4⟩ | ⟨j, w, h1, h2, h3, h4, h5⟩
   ·refine .inl ⟨h1, ?_, ?_, ?_⟩
    ·rw [mfind, if_neg hk]; exact h2
    ·rw [mput, if_neg hk]
     show (ek k', ev v') :: encM ek ev (mput r k v) = _
     rw [h3]; rfl
    ·rw [mdel, if_neg hk, h4]
   ·refine .inr ⟨j + 1, w, ?_, ?_, ?_, ?_, ?_⟩
    ·dsimp only
     rw [h1]; simp; omega
    ·rw [mfind, if_neg hk]; exact h2
    ·rw [List.getElem?_cons_succ]; exact h3
    ·rw [mput, if_neg hk]
     show (ek k', ev v') :: encM ek ev (mput r k v) = _
     rw [h4]; rfl
    ·rw [mdel, if_neg hk]
     show (ek k', ev v') :: encM ek ev (mdel r k) = _
     rw [h5]; rfl
theorem HH.mlook (E : KeyE P kt ek) (a : HH g h L F) (n : Nat) {id : Nat} {m : List (K × V)} (hk : L[n]? = some (.obj id (.map 2 (encM ek ev m)))) (hu : P.underlying t = some (.map kt et)) {z : V} (hz : zeroA P et = some (ev z)) (k : K) :
  mpL P h t (some id) (ek k) = some (ev ((mfind m k).getD z), (mfind m k).isSome) := by
 have hg := a.get n hk
 unfold mpL
 rw [hu]
 simp only [E.ok, if_true, mpE, hg]
 rw [if_pos (by decide)]
 dsimp only
 rcases findA_spec (ev := ev) E k z m 0 with ⟨h1, h2, _, _⟩ | ⟨j, w, h1, h2, _, _, _⟩
 ·rw [h1, h2]; simp [hz]
 ·rw [h1, h2]; rfl
theorem HH.mset (E : KeyE P kt ek) (a : HH g h L F) (n : Nat) {id : Nat} {m : List (K × V)} (hk : L[n]? = some (.obj id (.map 2 (encM ek ev m)))) (hu : P.underlying t = some (.map kt et)) (k : K) (v : V) (hz : frz1 g h (ev v) = some (ev v, h) := by rfl) :
  ∃ h', mpS P g h t (some id) (ek k) (ev v) = some h' ∧ HH g h' (L.set n (.obj id (.map 2 (encM ek ev (mput m k v))))) F := by
 have hg := a.get n hk
 have hm : g.may id = true := a.mayK hk (by simp [Ck.ids])
 refine ⟨h.set id (.map 2 (encM ek ev (mput m k v))), ?_, a.set n _ hk⟩
 unfold mpS mapSetZ
 rw [hz]
 show mapSetA P g h t (.map (some id)) (ek k) (ev v) = _
 unfold mapSetA
 rw [hu]
 simp only [E.ok, hm, and_self, if_true, hg]
 rcases findA_spec (ev := ev) E k v m 0 with ⟨h1, h2, h3, _⟩ | ⟨j, w, h1, h2, h3, h4, _⟩
 ·rw [h1, h3]
 ·rw [h1]
  simp only [Nat.zero_add, h3, E.same, if_true, h4]
end
end Go.Av
