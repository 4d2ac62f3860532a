/-
 A part.
-/
import Derived.Test.YtdbkpibbjnhmgaaDoorAvTy
namespace Go.Av
set_option linter.unusedVariables false
set_option linter.unusedSimpArgs false
def Kq {α β : Type} (o : Option α) (f : α → Option β) (n : Option β) : Option β := match o with | some x => f x | none => n
theorem Et {α β : Type} {o : Option α} {f : α → Option β} {n : Option β} {b : β} (h : Kq o f n = some b) : (∃ x, o = some x ∧ f x = some b) ∨ (o = none ∧ n = some b) := by
 cases o with
 | some x => exact .inl ⟨x, rfl, h⟩
 | none => exact .inr ⟨rfl, h⟩
structure Uj (P : Program) (t : TypeId) {K : Type} [DecidableEq K] (ek : K → AA) : Prop where
 ok : ∀ x, Ei P 20 t (ek x) = true
 eq : ∀ x y, Hk P 10000 t (ek x) (ek y) = some (decide (x = y))
 same : ∀ x, Iu (ek x) (ek x) = true
theorem Ug {P : Program} {t : TypeId} (hu : P.underlying t = some .string) : Uj P t (fun s : List UInt8 => AA.str s) := by
 refine ⟨fun x => ?_, fun x y => ?_, fun x => by simp [Iu, LG]⟩
 ·unfold Ei; rw [hu]
 ·show Hk P (9999 + 1) t _ _ = _
  unfold Hk
  rw [hu]
  simp only [Option.some.injEq]
  rw [Bool.eq_iff_iff]; simp
section
variable {K V : Type} [DecidableEq K]
def Cb : List (K × V) → K → Option V
 | [], _ => none
 | (k', v) :: r, k => if k = k' then some v else Cb r k
def EF : List (K × V) → K → V → List (K × V)
 | [], k, v => [(k, v)]
 | (k', v') :: r, k, v => if k = k' then (k, v) :: r else (k', v') :: EF r k v
def PF : List (K × V) → K → List (K × V)
 | [], _ => []
 | (k', v') :: r, k => if k = k' then r else (k', v') :: PF r k
def FQ (ek : K → AA) (ev : V → AA) (m : List (K × V)) : List (AA × AA) := m.map fun p => (ek p.1, ev p.2)
variable {P : Program} {t kt et : TypeId} {ek : K → AA} {ev : V → AA} {g : Gd} {h : AB} {L F : List Ck}
theorem HA (E : Uj P kt ek) (k : K) (v : V) : ∀ (m : List (K × V)) (i : Nat),
  (DP P kt (ek k) (FQ ek ev m) i = some none ∧ Cb m k = none ∧ FQ ek ev (EF m k v) = FQ ek ev m ++ [(ek k, ev v)] ∧ PF m k = m) ∨
  (∃ j w, DP P kt (ek k) (FQ ek ev m) i = some (some (i + j, ev w)) ∧ Cb m k = some w ∧ (FQ ek ev m)[j]? = some (ek k, ev w) ∧ FQ ek ev (EF m k v) = (FQ ek ev m).set j (ek k, ev v) ∧ FQ ek ev (PF m k) = (FQ ek ev m).eraseIdx j)
 | [], i => .inl ⟨rfl, rfl, rfl, rfl⟩
 | (k', v') :: r, i => by
  have e1 : FQ ek ev ((k', v') :: r) = (ek k', ev v') :: FQ ek ev r := rfl
  rw [e1, DP, E.eq]
  by_cases hk : k = k'
  ·subst hk
   refine .inr ⟨0, v', ?_, ?_, rfl, ?_, ?_⟩
   ·simp
   ·simp [Cb]
   ·simp [EF, FQ]
   ·simp [PF]
  ·rw [decide_eq_false hk]
   rcases HA E k v r (i + 1) with ⟨h1, h2, h3, h4⟩ | ⟨j, w, h1, h2, h3, h4, h5⟩
   ·refine .inl ⟨h1, ?_, ?_, ?_⟩
    ·rw [Cb, if_neg hk]; exact h2
    ·rw [EF, if_neg hk]
     show (ek k', ev v') :: FQ ek ev (EF r k v) = _
     rw [h3]; rfl
    ·rw [PF, if_neg hk, h4]
   ·refine .inr ⟨j + 1, w, ?_, ?_, ?_, ?_, ?_⟩
    ·dsimp only
     rw [h1]; simp; omega
    ·rw [Cb, if_neg hk]; exact h2
    ·rw [List.getElem?_cons_succ]; exact h3
    ·rw [EF, if_neg hk]
     show (ek k', ev v') :: FQ ek ev (EF r k v) = _
     rw [h4]; rfl
    ·rw [PF, if_neg hk]
     show (ek k', ev v') :: FQ ek ev (PF r k) = _
     rw [h5]; rfl
theorem HH.WS (E : Uj P kt ek) (a : HH g h L F) (n : Nat) {id : Nat} {m : List (K × V)} (hk : L[n]? = some (.obj id (.map 2 (FQ ek ev m)))) (hu : P.underlying t = some (.map kt et)) (k : K) (v : V) (hz : Fw g h (ev v) = some (ev v, h) := by rfl) :
  ∃ h', VY P g h t (some id) (ek k) (ev v) = some h' ∧ HH g h' (L.set n (.obj id (.map 2 (FQ ek ev (EF m k v))))) F := by
 have hg := a.get n hk
 have hm : g.may id = true := a.M9 hk (by simp [Ck.ids])
 refine ⟨h.set id (.map 2 (FQ ek ev (EF m k v))), ?_, a.set n _ hk⟩
 unfold VY Eb
 rw [hz]
 show HN P g h t (.map (some id)) (ek k) (ev v) = _
 unfold HN
 rw [hu]
 simp only [E.ok, hm, and_self, if_true, hg]
 rcases HA (ev := ev) E k v m 0 with ⟨h1, h2, h3, _⟩ | ⟨j, w, h1, h2, h3, h4, _⟩
 ·rw [h1, h3]
 ·rw [h1]
  simp only [Nat.zero_add, h3, E.same, if_true, h4]
end
end Go.Av
