/-
  AV: maps of one's own, as plain lists of keys and values.
-/
import Derived.Test.YtkdlmohhklimjaaGreatDoorAvTy
namespace Go.Av
set_option linter.unusedVariables false
set_option linter.unusedSimpArgs false

theorem iteB_an (b c : Bool) : iteB b (some c) (some false) = some (b && c) := by cases b <;> rfl
/-- keys of a type -/
structure KeyE (P : Program) (t : TypeId) {K : Type} [DecidableEq K] (ek : K → AVal) : Prop where
  ok : ∀ x, keyOkA P 20 t (ek x) = true
  eq : ∀ x y, eqA P 10000 t (ek x) (ek y) = some (decide (x = y))
  same : ∀ x, sameA (ek x) (ek x) = true
theorem keyS {P : Program} {t : TypeId} (hu : P.underlying t = some .string) : KeyE P t (fun s : List UInt8 => AVal.str s) := by
  refine ⟨fun x => ?_, fun x y => ?_, fun x => by simp [sameA, same1]⟩
  · unfold keyOkA; rw [hu]
  · show eqA P (9999 + 1) t _ _ = _
    unfold eqA
    rw [hu]
    simp only [Option.some.injEq]
    rw [Bool.eq_iff_iff]; simp
theorem keyI {P : Program} {t : TypeId} {k : IntKind} (hu : P.underlying t = some (.int k)) : KeyE P t (fun n : Int => AVal.int k n) := by
  refine ⟨fun x => ?_, fun x y => ?_, fun x => by simp [sameA, same1]⟩
  · unfold keyOkA; rw [hu]
  · show eqA P (9999 + 1) t _ _ = _
    unfold eqA
    rw [hu]
    simp only [if_true, Option.some.injEq]
    rw [Bool.eq_iff_iff]; simp
section
variable {K V : Type} [DecidableEq K]
def mfind : List (K × V) → K → Option V
  | [], _ => none
  | (k', v) :: r, k => if k = k' then some v else mfind r k
def mput : List (K × V) → K → V → List (K × V)
  | [], k, v => [(k, v)]
  | (k', v') :: r, k, v => if k = k' then (k, v) :: r else (k', v') :: mput r k v
def mdel : List (K × V) → K → List (K × V)
  | [], _ => []
  | (k', v') :: r, k => if k = k' then r else (k', v') :: mdel r k
def encM (ek : K → AVal) (ev : V → AVal) (m : List (K × V)) : List (AVal × AVal) := m.map fun p => (ek p.1, ev p.2)
omit [DecidableEq K] in
theorem encM_length (ek : K → AVal) (ev : V → AVal) (m : List (K × V)) : (encM ek ev m).length = m.length := by simp [encM]
variable {P : Program} {t kt et : TypeId} {ek : K → AVal} {ev : V → AVal} {g : Gd} {h : AHeap} {L F : List Ck}
theorem findA_spec (E : KeyE P kt ek) (k : K) (v : V) : ∀ (m : List (K × V)) (i : Nat),
    (findA P kt (ek k) (encM ek ev m) i = some none ∧ mfind m k = none ∧ encM ek ev (mput m k v) = encM ek ev m ++ [(ek k, ev v)] ∧ mdel m k = m) ∨
    (∃ j w, findA P kt (ek k) (encM ek ev m) i = some (some (i + j, ev w)) ∧ mfind m k = some w ∧ (encM ek ev m)[j]? = some (ek k, ev w) ∧ encM ek ev (mput m k v) = (encM ek ev m).set j (ek k, ev v) ∧ encM ek ev (mdel m k) = (encM ek ev m).eraseIdx j)
  | [], i => .inl ⟨rfl, rfl, rfl, rfl⟩
  | (k', v') :: r, i => by
    have e1 : encM ek ev ((k', v') :: r) = (ek k', ev v') :: encM ek ev r := rfl
    rw [e1, findA, E.eq]
    by_cases hk : k = k'
    · subst hk
      refine .inr ⟨0, v', ?_, ?_, rfl, ?_, ?_⟩
      · simp
      · simp [mfind]
      · simp [mput, encM]
      · simp [mdel]
    · rw [decide_eq_false hk]
      rcases findA_spec E k v r (i + 1) with ⟨h1, h2, h3, h4⟩ | ⟨j, w, h1, h2, h3, h4, h5⟩
      · refine .inl ⟨h1, ?_, ?_, ?_⟩
        · rw [mfind, if_neg hk]; exact h2
        · rw [mput, if_neg hk]
          show (ek k', ev v') :: encM ek ev (mput r k v) = _
          rw [h3]; rfl
        · rw [mdel, if_neg hk, h4]
      · refine .inr ⟨j + 1, w, ?_, ?_, ?_, ?_, ?_⟩
        · dsimp only
          rw [h1]; simp; omega
        · rw [mfind, if_neg hk]; exact h2
        · rw [List.getElem?_cons_succ]; exact h3
        · rw [mput, if_neg hk]
          show (ek k', ev v') :: encM ek ev (mput r k v) = _
          rw [h4]; rfl
        · rw [mdel, if_neg hk]
          show (ek k', ev v') :: encM ek ev (mdel r k) = _
          rw [h5]; rfl
theorem mpL_nil (E : KeyE P kt ek) (hu : P.underlying t = some (.map kt et)) {z : V} (hz : zeroA P et = some (ev z)) (k : K) : mpL P h t none (ek k) = some (ev z, false) := by
  unfold mpL
  rw [hu]
  simp only [E.ok, if_true, mpE, findA, hz, Option.map_some]
theorem HH.mlook (E : KeyE P kt ek) (a : HH g h L F) (n : Nat) {id : Nat} {m : List (K × V)} (hk : L[n]? = some (.obj id (.map 2 (encM ek ev m)))) (hu : P.underlying t = some (.map kt et)) {z : V} (hz : zeroA P et = some (ev z)) (k : K) :
    mpL P h t (some id) (ek k) = some (ev ((mfind m k).getD z), (mfind m k).isSome) := by
  have hg := a.get n hk
  unfold mpL
  rw [hu]
  simp only [E.ok, if_true, mpE, hg]
  rw [if_pos (by decide)]
  dsimp only
  rcases findA_spec (ev := ev) E k z m 0 with ⟨h1, h2, _, _⟩ | ⟨j, w, h1, h2, _, _, _⟩
  · rw [h1, h2]; simp [hz]
  · rw [h1, h2]; rfl
theorem HH.mset (E : KeyE P kt ek) (a : HH g h L F) (n : Nat) {id : Nat} {m : List (K × V)} (hk : L[n]? = some (.obj id (.map 2 (encM ek ev m)))) (hu : P.underlying t = some (.map kt et)) (k : K) (v : V) :
    ∃ h', mpS P g h t (some id) (ek k) (ev v) = some h' ∧ HH g h' (L.set n (.obj id (.map 2 (encM ek ev (mput m k v))))) F := by
  have hg := a.get n hk
  have hm : g.may id = true := a.mayK hk (by simp [Ck.ids])
  refine ⟨h.set id (.map 2 (encM ek ev (mput m k v))), ?_, a.set n _ hk⟩
  unfold mpS mapSetA
  rw [hu]
  simp only [E.ok, hm, and_self, if_true, hg]
  rcases findA_spec (ev := ev) E k v m 0 with ⟨h1, h2, h3, _⟩ | ⟨j, w, h1, h2, h3, h4, _⟩
  · rw [h1, h3]
  · rw [h1]
    simp only [Nat.zero_add, h3, E.same, if_true, h4]
theorem HH.mdel' (E : KeyE P kt ek) (a : HH g h L F) (n : Nat) {id : Nat} {m : List (K × V)} (hk : L[n]? = some (.obj id (.map 2 (encM ek ev m)))) {ts : Array TypeId} (ht : ts[0]? = some t) (hu : P.underlying t = some (.map kt et)) (k : K) :
    ∃ h', deleteA P g h ts (.map (some id)) (ek k) = some h' ∧ HH g h' (L.set n (.obj id (.map 2 (encM ek ev (mdel m k))))) F := by
  have hg := a.get n hk
  have hm : g.may id = true := a.mayK hk (by simp [Ck.ids])
  unfold deleteA
  rw [ht]
  dsimp only
  rw [hu]
  simp only [E.ok, hm, and_self, if_true, hg]
  cases m with
  | nil =>
    refine ⟨h, rfl, ?_⟩
    rw [show mdel ([] : List (K × V)) k = [] from rfl]
    have : L.set n (.obj id (.map 2 (encM ek ev ([] : List (K × V))))) = L := by
      rw [set_split hk]; exact (split_at hk).symm
    rw [this]; exact a
  | cons p r =>
    rcases findA_spec (ev := ev) E k p.2 (p :: r) 0 with ⟨h1, h2, h3, h4⟩ | ⟨j, w, h1, h2, h3, h4, h5⟩
    · refine ⟨h, by rw [h1], ?_⟩
      rw [h4]
      have : L.set n (.obj id (.map 2 (encM ek ev (p :: r)))) = L := by
        rw [set_split hk]; exact (split_at hk).symm
      rw [this]; exact a
    · refine ⟨_, by rw [h1], ?_⟩
      rw [h5, Nat.zero_add]
      exact a.set n _ hk
omit [DecidableEq K] in
theorem HH.mlen (a : HH g h L F) (n : Nat) {id : Nat} {m : List (K × V)} (hk : L[n]? = some (.obj id (.map 2 (encM ek ev m)))) : mpN h (some id) = some (m.length : Int) := by
  unfold mpN mpE
  simp [a.get n hk, encM]
end
section
variable {C : Cfg} {S : Self} {g : Gd} {h h1 : AHeap} {fr : Fr} {op : Op}
theorem s_lenM {m : Option Nat} {n : Int} (hs : spLenM C.P fr op = some m) (hl : mpN h m = some n) : stepA C S g h fr op = some (.int .i64 n, h) := by
  unfold spLenM at hs
  split at hs
  · rename_i as ts
    split at hs
    · rename_i x t hx ht
      split at hs
      · rename_i kt et m' hu hm
        injection hs with hs
        subst hs
        have hc : clsOf C.P (.call { callee := .builtin .len, args := as, argTypes := ts }) = 1 := by simp [clsOf, ht, hu]
        unfold mpN mpE at hl
        cases m' with
        | none =>
          simp only [Option.map_some, List.length_nil, Option.some.injEq] at hl
          subst hl
          rw [stepA_of_cls (by rw [hc]; decide)]
          simp [opA, hc, touchA, hx, hm, refOf, opR, lenR, ht, hu]
        | some id =>
          simp only [Option.map_eq_some_iff] at hl
          obtain ⟨es, h2, rfl⟩ := hl
          split at h2
          · rename_i st es' hg
            split at h2
            · rename_i hst
              injection h2 with h2
              subst h2
              rw [stepA_of_cls (by rw [hc]; decide)]
              simp [opA, hc, touchA, hx, hm, refOf, opR, lenR, ht, hu, hg, hst]
            · cases h2
          · cases h2
      · cases hs
    · cases hs
  · cases hs
def spDel (fr : Fr) : Op → Option (Array TypeId × AVal × AVal)
  | .call { callee := .builtin .delete, args := as, argTypes := ts } =>
    match as.toList with
    | [m, k] => some (ts, ev fr m, ev fr k)
    | _ => none
  | _ => none
theorem s_del {ts : Array TypeId} {m k : AVal} (hs : spDel fr op = some (ts, m, k)) (hl : deleteA C.P g h ts m k = some h1) : stepA C S g h fr op = some (.tuple [], h1) := by
  unfold spDel at hs
  split at hs
  · rename_i as ts'
    split at hs
    · rename_i m' k' hx
      simp only [Option.some.injEq, Prod.mk.injEq] at hs
      obtain ⟨rfl, rfl, rfl⟩ := hs
      simp [stepA, opA, clsOf, opW, hx, hl]
    · cases hs
  · cases hs
end
end Go.Av
