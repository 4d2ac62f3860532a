/-
  AV: maps of one's own, as plain lists of keys and values.
-/
import Derived.Test.YthnnciphldbmeaaGreatDoorAvTy
namespace Go.Av
set_option linter.unusedVariables false
set_option linter.unusedSimpArgs false
structure WA (P : Program) (t : TypeId) {K : Type} [DecidableEq K] (ek : K → AD) : Prop where
 ok : ∀ x, Fk P 20 t (ek x) = true
 eq : ∀ x y, IX P 10000 t (ek x) (ek y) = some (decide (x = y))
 same : ∀ x, Ly (ek x) (ek x) = true
theorem Rg {P : Program} {t : TypeId} (hu : P.underlying t = some .string) : WA P t (fun s : List UInt8 => AD.str s) := by
 refine ⟨fun x => ?_, fun x y => ?_, fun x => by simp [Ly, OM]⟩
 ·unfold Fk; rw [hu]
 ·show IX P (9999 + 1) t _ _ = _
  unfold IX
  rw [hu]
  simp only [Option.some.injEq]
  rw [Bool.eq_iff_iff]; simp
section
variable {K V : Type} [DecidableEq K]
def Ew : List (K × V) → K → Option V
 | [], _ => none
 | (k', v) :: r, k => if k = k' then some v else Ew r k
def It : List (K × V) → K → V → List (K × V)
 | [], k, v => [(k, v)]
 | (k', v') :: r, k, v => if k = k' then (k, v) :: r else (k', v') :: It r k v
def Sw : List (K × V) → K → List (K × V)
 | [], _ => []
 | (k', v') :: r, k => if k = k' then r else (k', v') :: Sw r k
def BZ (ek : K → AD) (ev : V → AD) (m : List (K × V)) : List (AD × AD) := m.map fun p => (ek p.1, ev p.2)
variable {P : Program} {t kt et : TypeId} {ek : K → AD} {ev : V → AD} {g : Gd} {h : AM} {L F : List Ck}
theorem MR (E : WA P kt ek) (k : K) (v : V) : ∀ (m : List (K × V)) (i : Nat),
  (Cx P kt (ek k) (BZ ek ev m) i = some none ∧ Ew m k = none ∧ BZ ek ev (It m k v) = BZ ek ev m ++ [(ek k, ev v)] ∧ Sw m k = m) ∨
  (∃ j w, Cx P kt (ek k) (BZ ek ev m) i = some (some (i + j, ev w)) ∧ Ew m k = some w ∧ (BZ ek ev m)[j]? = some (ek k, ev w) ∧ BZ ek ev (It m k v) = (BZ ek ev m).set j (ek k, ev v) ∧ BZ ek ev (Sw m k) = (BZ ek ev m).eraseIdx j)
 | [], i => .inl ⟨rfl, rfl, rfl, rfl⟩
 | (k', v') :: r, i => by
  have e1 : BZ ek ev ((k', v') :: r) = (ek k', ev v') :: BZ ek ev r := rfl
  rw [e1, Cx, E.eq]
  by_cases hk : k = k'
  ·subst hk
   refine .inr ⟨0, v', ?_, ?_, rfl, ?_, ?_⟩
   ·simp
   ·simp [Ew]
   ·simp [It, BZ]
   ·simp [Sw]
  ·rw [decide_eq_false hk]
   rcases MR E k v r (i + 1) with ⟨h1, h2, h3, h4⟩ | ⟨j, w, h1, h2, h3, h4, h5⟩
   ·refine .inl ⟨h1, ?_, ?_, ?_⟩
    ·rw [Ew, if_neg hk]; exact h2
    ·rw [It, if_neg hk]
     show (ek k', ev v') :: BZ ek ev (It r k v) = _
     rw [h3]; rfl
    ·rw [Sw, if_neg hk, h4]
   ·refine .inr ⟨j + 1, w, ?_, ?_, ?_, ?_, ?_⟩
    ·dsimp only
     rw [h1]; simp; omega
    ·rw [Ew, if_neg hk]; exact h2
    ·rw [List.getElem?_cons_succ]; exact h3
    ·rw [It, if_neg hk]
     show (ek k', ev v') :: BZ ek ev (It r k v) = _
     rw [h4]; rfl
    ·rw [Sw, if_neg hk]
     show (ek k', ev v') :: BZ ek ev (Sw r k) = _
     rw [h5]; rfl
theorem HH.TJ (E : WA P kt ek) (a : HH g h L F) (n : Nat) {id : Nat} {m : List (K × V)} (hk : L[n]? = some (.obj id (.map 2 (BZ ek ev m)))) (hu : P.underlying t = some (.map kt et)) {z : V} (hz : HT P et = some (ev z)) (k : K) :
  S2 P h t (some id) (ek k) = some (ev ((Ew m k).getD z), (Ew m k).isSome) := by
 have hg := a.get n hk
 unfold S2
 rw [hu]
 simp only [E.ok, if_true, UN, hg]
 rw [if_pos (by decide)]
 dsimp only
 rcases MR (ev := ev) E k z m 0 with ⟨h1, h2, _, _⟩ | ⟨j, w, h1, h2, _, _, _⟩
 ·rw [h1, h2]; simp [hz]
 ·rw [h1, h2]; rfl
theorem HH.WB (E : WA P kt ek) (a : HH g h L F) (n : Nat) {id : Nat} {m : List (K × V)} (hk : L[n]? = some (.obj id (.map 2 (BZ ek ev m)))) (hu : P.underlying t = some (.map kt et)) (k : K) (v : V) (hz : F4 g h (ev v) = some (ev v, h) := by rfl) :
  ∃ h', XH P g h t (some id) (ek k) (ev v) = some h' ∧ HH g h' (L.set n (.obj id (.map 2 (BZ ek ev (It m k v))))) F := by
 have hg := a.get n hk
 have hm : g.may id = true := a.Q6 hk (by simp [Ck.ids])
 refine ⟨h.set id (.map 2 (BZ ek ev (It m k v))), ?_, a.set n _ hk⟩
 unfold XH Gb
 rw [hz]
 show IW P g h t (.map (some id)) (ek k) (ev v) = _
 unfold IW
 rw [hu]
 simp only [E.ok, hm, and_self, if_true, hg]
 rcases MR (ev := ev) E k v m 0 with ⟨h1, h2, h3, _⟩ | ⟨j, w, h1, h2, h3, h4, _⟩
 ·rw [h1, h3]
 ·rw [h1]
  simp only [Nat.zero_add, h3, E.same, if_true, h4]
omit [DecidableEq K] in
theorem HH.Xc (a : HH g h L F) (n : Nat) {id : Nat} {m : List (K × V)} (hk : L[n]? = some (.obj id (.map 2 (BZ ek ev m)))) : X2 h (some id) = some (m.length : Int) := by
 unfold X2 UN
 simp [a.get n hk, BZ]
end
section
variable {C : Hj} {S : Self} {g : Gd} {h h1 : AM} {fr : Fr} {op : Op}
theorem VI {m : Option Nat} {n : Int} (hs : U1 C.P fr op = some m) (hl : X2 h m = some n) : Bl C S g h fr op = some (.int .i64 n, h) := by
 unfold U1 at hs
 split at hs
 ·rename_i as ts
  split at hs
  ·rename_i x t hx ht
   split at hs
   ·rename_i kt et m' hu hm
    injection hs with hs
    subst hs
    have hc : BI C.P (.call { callee := .builtin .len, args := as, argTypes := ts }) = 1 := by simp [BI, ht, hu]
    unfold X2 UN at hl
    cases m' with
    | none =>
     simp only [Option.map_some, List.length_nil, Option.some.injEq] at hl
     subst hl
     rw [Fo (by rw [hc]; decide)]
     simp [Il, hc, Dj, hx, hm, FB, Kk, Uz, ht, hu]
    | some id =>
     simp only [Option.map_eq_some_iff] at hl
     obtain ⟨es, h2, rfl⟩ := hl
     split at h2
     ·rename_i st es' hg
      split at h2
      ·rename_i hst
       injection h2 with h2
       subst h2
       rw [Fo (by rw [hc]; decide)]
       simp [Il, hc, Dj, hx, hm, FB, Kk, Uz, ht, hu, hg, hst]
      ·cases h2
     ·cases h2
   ·cases hs
  ·cases hs
 ·cases hs
end
end Go.Av
