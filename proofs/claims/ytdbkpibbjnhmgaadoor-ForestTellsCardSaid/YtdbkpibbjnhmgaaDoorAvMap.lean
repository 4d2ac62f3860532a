/-
  Several texts in one.
-/
import Derived.Test.YtdbkpibbjnhmgaaDoorAvDef
import Derived.Test.YtdbkpibbjnhmgaaDoorAvTy
/-
 A part.
-/
section
namespace Go.Av
set_option linter.unusedVariables false
def RQ (a b : Int) : Int := if b > a then b else a
def Hs (f : AA → Option Int) : List (AA × AA) → Int → Option Int
 | [], m => some m
 | p :: l, m =>
  match f p.2 with
  | some d => Hs f l (RQ m (IntKind.i64.wrap (d + 1)))
  | none => none
def T9 (f : Nat → Option Int) : AA → Option Int
 | .ptr (some (k, 0)) => f k
 | _ => none
def N5 (h : AB) (id : Nat) : Option (Nat × List (AA × AA)) :=
 match h.get id with
 | some (.cells none 2 [_, _, .map (some mid)]) =>
  match h.get mid with
  | some (.map 2 es) => some (mid, es)
  | _ => none
 | _ => none
def Oi (h : AB) : Nat → Nat → Option Int
 | 0, _ => none
 | n + 1, id => (N5 h id).bind fun q => Hs (T9 (Oi h n)) q.2 0
def Rr : Nat := 1000000
def Js (h : AB) : List AA → Option (AA × AB)
 | [.ptr (some (id, 0))] => (Oi h Rr id).map fun d => (.int .i64 d, h)
 | _ => none
end Go.Av
end
/-
 A part.
-/
section
namespace Go.Av
set_option linter.unusedVariables false
set_option linter.unusedSimpArgs false
def Ks {α β : Type} (o : Option α) (f : α → Option β) (n : Option β) : Option β := match o with | some x => f x | none => n
theorem Gg {α β : Type} {o : Option α} {f : α → Option β} {n : Option β} {b : β} (h : Ks o f n = some b) : (∃ x, o = some x ∧ f x = some b) ∨ (o = none ∧ n = some b) := by
 cases o with
 | some x => exact .inl ⟨x, rfl, h⟩
 | none => exact .inr ⟨rfl, h⟩
structure Vb (P : Program) (t : TypeId) {K : Type} [DecidableEq K] (ek : K → AA) : Prop where
 ok : ∀ x, ES P 20 t (ek x) = true
 eq : ∀ x y, HP P 10000 t (ek x) (ek y) = some (decide (x = y))
 same : ∀ x, Il (ek x) (ek x) = true
theorem Vr {P : Program} {t : TypeId} (hu : P.underlying t = some .string) : Vb P t (fun s : List UInt8 => AA.str s) := by
 refine ⟨fun x => ?_, fun x y => ?_, fun x => by simp [Il, LZ]⟩
 ·unfold ES; rw [hu]
 ·show HP P (9999 + 1) t _ _ = _
  unfold HP
  rw [hu]
  simp only [Option.some.injEq]
  rw [Bool.eq_iff_iff]; simp
section
variable {K V : Type} [DecidableEq K]
def CY : List (K × V) → K → Option V
 | [], _ => none
 | (k', v) :: r, k => if k = k' then some v else CY r k
def D7 : List (K × V) → K → V → List (K × V)
 | [], k, v => [(k, v)]
 | (k', v') :: r, k, v => if k = k' then (k, v) :: r else (k', v') :: D7 r k v
def QF : List (K × V) → K → List (K × V)
 | [], _ => []
 | (k', v') :: r, k => if k = k' then r else (k', v') :: QF r k
def Ei (ek : K → AA) (ev : V → AA) (m : List (K × V)) : List (AA × AA) := m.map fun p => (ek p.1, ev p.2)
variable {P : Program} {t kt et : TypeId} {ek : K → AA} {ev : V → AA} {g : Gd} {h : AB} {L F : List Ck}
theorem Gt (E : Vb P kt ek) (k : K) (v : V) : ∀ (m : List (K × V)) (i : Nat),
  (DN P kt (ek k) (Ei ek ev m) i = some none ∧ CY m k = none ∧ Ei ek ev (D7 m k v) = Ei ek ev m ++ [(ek k, ev v)] ∧ QF m k = m) ∨
  (∃ j w, DN P kt (ek k) (Ei ek ev m) i = some (some (i + j, ev w)) ∧ CY m k = some w ∧ (Ei ek ev m)[j]? = some (ek k, ev w) ∧ Ei ek ev (D7 m k v) = (Ei ek ev m).set j (ek k, ev v) ∧ Ei ek ev (QF m k) = (Ei ek ev m).eraseIdx j)
 | [], i => .inl ⟨rfl, rfl, rfl, rfl⟩
 | (k', v') :: r, i => by
  have e1 : Ei ek ev ((k', v') :: r) = (ek k', ev v') :: Ei ek ev r := rfl
  rw [e1, DN, E.eq]
  by_cases hk : k = k'
  ·subst hk
   refine .inr ⟨0, v', ?_, ?_, rfl, ?_, ?_⟩
   ·simp
   ·simp [CY]
   ·simp [D7, Ei]
   ·simp [QF]
  ·rw [decide_eq_false hk]
   rcases Gt E k v r (i + 1) with ⟨h1, h2, h3, h4⟩ | ⟨j, w, h1, h2, h3, h4, h5⟩
   ·refine .inl ⟨h1, ?_, ?_, ?_⟩
    ·rw [CY, if_neg hk]; exact h2
    ·rw [D7, if_neg hk]
     show (ek k', ev v') :: Ei ek ev (D7 r k v) = _
     rw [h3]; rfl
    ·rw [QF, if_neg hk, h4]
   ·refine .inr ⟨j + 1, w, ?_, ?_, ?_, ?_, ?_⟩
    ·dsimp only
     rw [h1]; simp; omega
    ·rw [CY, if_neg hk]; exact h2
    ·rw [List.getElem?_cons_succ]; exact h3
    ·rw [D7, if_neg hk]
     show (ek k', ev v') :: Ei ek ev (D7 r k v) = _
     rw [h4]; rfl
    ·rw [QF, if_neg hk]
     show (ek k', ev v') :: Ei ek ev (QF r k) = _
     rw [h5]; rfl
theorem HH.Xd (E : Vb P kt ek) (a : HH g h L F) (n : Nat) {id : Nat} {m : List (K × V)} (hk : L[n]? = some (.obj id (.map 2 (Ei ek ev m)))) (hu : P.underlying t = some (.map kt et)) (k : K) (v : V) (hz : Fm g h (ev v) = some (ev v, h) := by rfl) :
  ∃ h', V9 P g h t (some id) (ek k) (ev v) = some h' ∧ HH g h' (L.set n (.obj id (.map 2 (Ei ek ev (D7 m k v))))) F := by
 have hg := a.get n hk
 have hm : g.may id = true := a.Ns hk (by simp [Ck.ids])
 refine ⟨h.set id (.map 2 (Ei ek ev (D7 m k v))), ?_, a.set n _ hk⟩
 unfold V9 EY
 rw [hz]
 show Gm P g h t (.map (some id)) (ek k) (ev v) = _
 unfold Gm
 rw [hu]
 simp only [E.ok, hm, and_self, if_true, hg]
 rcases Gt (ev := ev) E k v m 0 with ⟨h1, h2, h3, _⟩ | ⟨j, w, h1, h2, h3, h4, _⟩
 ·rw [h1, h3]
 ·rw [h1]
  simp only [Nat.zero_add, h3, E.same, if_true, h4]
end
end Go.Av
end
