/-
  AV: maps of known keys, of texts: what stands in them is known (functions among it).
-/
import Derived.Test.YthnnciphldbmeaaGreatDoorAvMap
namespace Go.Av
set_option linter.unusedVariables false
set_option linter.unusedSimpArgs false
inductive M7 (s : List UInt8) : List (AA × AA) → Option AA → Prop
 | nil : M7 s [] none
 | hit {k : List UInt8} {v : AA} {es : List (AA × AA)} : (s == k) = true → M7 s ((.str k, v) :: es) (some v)
 | EH {k : List UInt8} {v : AA} {es : List (AA × AA)} {r : Option AA} : (s == k) = false → M7 s es r → M7 s ((.str k, v) :: es) r
section
variable {P : Program} {t kt et : TypeId} {g : Gd} {h : AH} {L F : List Ck}
theorem M7.Cu {s : List UInt8} (hs : P.underlying kt = some .string) : ∀ {es : List (AA × AA)} {r : Option AA} (f : M7 s es r) (i : Nat), (r = none ∧ Av.Cu P kt (.str s) es i = some none) ∨ ∃ v j, r = some v ∧ Av.Cu P kt (.str s) es i = some (some (j, v))
 | _, _, .nil, i => .inl ⟨rfl, rfl⟩
 | _, _, .hit (k := k) (v := v) (es := es) hb, i => by
  refine .inr ⟨v, i, rfl, ?_⟩
  unfold Av.Cu
  have e : II P 10000 kt (.str s) (.str k) = some true := by
   show II P (9999 + 1) kt _ _ = _
   unfold II
   rw [hs]
   simp only [hb]
  rw [e]
 | _, _, .EH (k := k) (v := v) (es := es) hb f, i => by
  have e : II P 10000 kt (.str s) (.str k) = some false := by
   show II P (9999 + 1) kt _ _ = _
   unfold II
   rw [hs]
   simp only [hb]
  unfold Av.Cu
  rw [e]
  exact f.Cu hs (i + 1)
inductive M9 (kd : IntKind) (x : Int) : List (AA × AA) → Option AA → Prop
 | nil : M9 kd x [] none
 | hit {k : Int} {v : AA} {es : List (AA × AA)} : (x == k) = true → M9 kd x ((.int kd k, v) :: es) (some v)
 | EH {k : Int} {v : AA} {es : List (AA × AA)} {r : Option AA} : (x == k) = false → M9 kd x es r → M9 kd x ((.int kd k, v) :: es) r
theorem M9.Cu {kd kd' : IntKind} {x : Int} (hs : P.underlying kt = some (.int kd')) : ∀ {es : List (AA × AA)} {r : Option AA} (f : M9 kd x es r) (i : Nat), (r = none ∧ Av.Cu P kt (.int kd x) es i = some none) ∨ ∃ v j, r = some v ∧ Av.Cu P kt (.int kd x) es i = some (some (j, v))
 | _, _, .nil, i => .inl ⟨rfl, rfl⟩
 | _, _, .hit (k := k) (v := v) (es := es) hb, i => by
  refine .inr ⟨v, i, rfl, ?_⟩
  unfold Av.Cu
  have e : II P 10000 kt (.int kd x) (.int kd k) = some true := by
   show II P (9999 + 1) kt _ _ = _
   unfold II
   rw [hs]
   simp only [if_true, hb]
  rw [e]
 | _, _, .EH (k := k) (v := v) (es := es) hb f, i => by
  have e : II P 10000 kt (.int kd x) (.int kd k) = some false := by
   show II P (9999 + 1) kt _ _ = _
   unfold II
   rw [hs]
   simp only [if_true, hb]
  unfold Av.Cu
  rw [e]
  exact f.Cu hs (i + 1)
theorem PO {kd kd' : IntKind} (hs : P.underlying kt = some (.int kd')) (x : Int) : FP P 20 kt (.int kd x) = true := by
 unfold FP; rw [hs]
theorem HH.UY (a : HH g h L F) (n : Nat) {id st : Nat} {es : List (AA × AA)} (hk : L[n]? = some (.obj id (.map st es))) (hu : P.underlying t = some (.map kt et)) {kd kd' : IntKind} (hs : P.underlying kt = some (.int kd')) {x : Int} {v : AA} (f : M9 kd x es (some v)) (hst : st ≠ 0 := by decide) :
  R8 P h t (some id) (.int kd x) = some (v, true) := by
 have hg := a.get n hk
 unfold R8
 rw [hu]
 simp only [PO hs, if_true, T0, hg]
 rw [if_pos hst]
 dsimp only
 rcases f.Cu hs 0 with ⟨h1, _⟩ | ⟨w, j, h1, h2⟩
 ·cases h1
 ·cases h1
  rw [h2]
theorem HH.VB (a : HH g h L F) (n : Nat) {id st : Nat} {es : List (AA × AA)} (hk : L[n]? = some (.obj id (.map st es))) (hu : P.underlying t = some (.map kt et)) {kd kd' : IntKind} (hs : P.underlying kt = some (.int kd')) {z : AA} (hz : HD P et = some z) {x : Int} (f : M9 kd x es none) (hst : st ≠ 0 := by decide) :
  R8 P h t (some id) (.int kd x) = some (z, false) := by
 have hg := a.get n hk
 unfold R8
 rw [hu]
 simp only [PO hs, if_true, T0, hg]
 rw [if_pos hst]
 dsimp only
 rcases f.Cu hs 0 with ⟨_, h2⟩ | ⟨w, j, h1, h2⟩
 ·rw [h2]
  simp [hz]
 ·cases h1
theorem Pf (hs : P.underlying kt = some .string) (s : List UInt8) : FP P 20 kt (.str s) = true := by
 unfold FP; rw [hs]
theorem HH.UO (a : HH g h L F) (n : Nat) {id st : Nat} {es : List (AA × AA)} (hk : L[n]? = some (.obj id (.map st es))) (hu : P.underlying t = some (.map kt et)) (hs : P.underlying kt = some .string) {s : List UInt8} {v : AA} (f : M7 s es (some v)) (hst : st ≠ 0 := by decide) :
  R8 P h t (some id) (.str s) = some (v, true) := by
 have hg := a.get n hk
 unfold R8
 rw [hu]
 simp only [Pf hs, if_true, T0, hg]
 rw [if_pos hst]
 dsimp only
 rcases f.Cu hs 0 with ⟨h1, _⟩ | ⟨w, j, h1, h2⟩
 ·cases h1
 ·cases h1
  rw [h2]
theorem HH.VA (a : HH g h L F) (n : Nat) {id st : Nat} {es : List (AA × AA)} (hk : L[n]? = some (.obj id (.map st es))) (hu : P.underlying t = some (.map kt et)) (hs : P.underlying kt = some .string) {z : AA} (hz : HD P et = some z) {s : List UInt8} (f : M7 s es none) (hst : st ≠ 0 := by decide) :
  R8 P h t (some id) (.str s) = some (z, false) := by
 have hg := a.get n hk
 unfold R8
 rw [hu]
 simp only [Pf hs, if_true, T0, hg]
 rw [if_pos hst]
 dsimp only
 rcases f.Cu hs 0 with ⟨_, h2⟩ | ⟨w, j, h1, h2⟩
 ·rw [h2]
  simp [hz]
 ·cases h1
theorem HH.Vh (a : HH g h L F) (n : Nat) {id : Nat} {es : List (AA × AA)} (hk : L[n]? = some (.obj id (.map 2 es))) (hu : P.underlying t = some (.map kt et)) {k v : AA} (hok : FP P 20 kt k = true) (hf : Cu P kt k es 0 = some none) (hz : Fx g h v = some (v, h) := by rfl) :
  ∃ h', WY P g h t (some id) k v = some h' ∧ HH g h' (L.set n (.obj id (.map 2 (es ++ [(k, v)])))) F := by
 have hg := a.get n hk
 have hm : g.may id = true := a.QG hk (by simp [Ck.ids])
 refine ⟨h.set id (.map 2 (es ++ [(k, v)])), ?_, a.set n _ hk⟩
 unfold WY GP
 rw [hz]
 show IJ P g h t (.map (some id)) k v = _
 unfold IJ
 rw [hu]
 simp only [hok, hm, and_self, if_true, hg, hf]
end
end Go.Av
