/-
  AV: maps of known keys, of texts: what stands in them is known (functions among it).
-/
import Derived.Test.YthnnciphldbmeaaGreatDoorAvMap
namespace Go.Av
set_option linter.unusedVariables false
set_option linter.unusedSimpArgs false
inductive Nq (s : List UInt8) : List (AA × AA) → Option AA → Prop
 | nil : Nq s [] none
 | hit {k : List UInt8} {v : AA} {es : List (AA × AA)} : (s == k) = true → Nq s ((.str k, v) :: es) (some v)
 | F8 {k : List UInt8} {v : AA} {es : List (AA × AA)} {r : Option AA} : (s == k) = false → Nq s es r → Nq s ((.str k, v) :: es) r
section
variable {P : Program} {t kt et : TypeId} {g : Gd} {h : AH} {L F : List Ck}
theorem Nq.Cq {s : List UInt8} (hs : P.underlying kt = some .string) : ∀ {es : List (AA × AA)} {r : Option AA} (f : Nq s es r) (i : Nat), (r = none ∧ Av.Cq P kt (.str s) es i = some none) ∨ ∃ v j, r = some v ∧ Av.Cq P kt (.str s) es i = some (some (j, v))
 | _, _, .nil, i => .inl ⟨rfl, rfl⟩
 | _, _, .hit (k := k) (v := v) (es := es) hb, i => by
  refine .inr ⟨v, i, rfl, ?_⟩
  unfold Av.Cq
  have e : IF P 10000 kt (.str s) (.str k) = some true := by
   show IF P (9999 + 1) kt _ _ = _
   unfold IF
   rw [hs]
   simp only [hb]
  rw [e]
 | _, _, .F8 (k := k) (v := v) (es := es) hb f, i => by
  have e : IF P 10000 kt (.str s) (.str k) = some false := by
   show IF P (9999 + 1) kt _ _ = _
   unfold IF
   rw [hs]
   simp only [hb]
  unfold Av.Cq
  rw [e]
  exact f.Cq hs (i + 1)
inductive N2 (kd : IntKind) (x : Int) : List (AA × AA) → Option AA → Prop
 | nil : N2 kd x [] none
 | hit {k : Int} {v : AA} {es : List (AA × AA)} : (x == k) = true → N2 kd x ((.int kd k, v) :: es) (some v)
 | F8 {k : Int} {v : AA} {es : List (AA × AA)} {r : Option AA} : (x == k) = false → N2 kd x es r → N2 kd x ((.int kd k, v) :: es) r
theorem N2.Cq {kd kd' : IntKind} {x : Int} (hs : P.underlying kt = some (.int kd')) : ∀ {es : List (AA × AA)} {r : Option AA} (f : N2 kd x es r) (i : Nat), (r = none ∧ Av.Cq P kt (.int kd x) es i = some none) ∨ ∃ v j, r = some v ∧ Av.Cq P kt (.int kd x) es i = some (some (j, v))
 | _, _, .nil, i => .inl ⟨rfl, rfl⟩
 | _, _, .hit (k := k) (v := v) (es := es) hb, i => by
  refine .inr ⟨v, i, rfl, ?_⟩
  unfold Av.Cq
  have e : IF P 10000 kt (.int kd x) (.int kd k) = some true := by
   show IF P (9999 + 1) kt _ _ = _
   unfold IF
   rw [hs]
   simp only [if_true, hb]
  rw [e]
 | _, _, .F8 (k := k) (v := v) (es := es) hb f, i => by
  have e : IF P 10000 kt (.int kd x) (.int kd k) = some false := by
   show IF P (9999 + 1) kt _ _ = _
   unfold IF
   rw [hs]
   simp only [if_true, hb]
  unfold Av.Cq
  rw [e]
  exact f.Cq hs (i + 1)
theorem QI {kd kd' : IntKind} (hs : P.underlying kt = some (.int kd')) (x : Int) : FM P 20 kt (.int kd x) = true := by
 unfold FM; rw [hs]
theorem HH.U8 (a : HH g h L F) (n : Nat) {id st : Nat} {es : List (AA × AA)} (hk : L[n]? = some (.obj id (.map st es))) (hu : P.underlying t = some (.map kt et)) {kd kd' : IntKind} (hs : P.underlying kt = some (.int kd')) {x : Int} {v : AA} (f : N2 kd x es (some v)) (hst : st ≠ 0 := by decide) :
  TK P h t (some id) (.int kd x) = some (v, true) := by
 have hg := a.get n hk
 unfold TK
 rw [hu]
 simp only [QI hs, if_true, Vg, hg]
 rw [if_pos hst]
 dsimp only
 rcases f.Cq hs 0 with ⟨h1, _⟩ | ⟨w, j, h1, h2⟩
 ·cases h1
 ·cases h1
  rw [h2]
theorem HH.Vv (a : HH g h L F) (n : Nat) {id st : Nat} {es : List (AA × AA)} (hk : L[n]? = some (.obj id (.map st es))) (hu : P.underlying t = some (.map kt et)) {kd kd' : IntKind} (hs : P.underlying kt = some (.int kd')) {z : AA} (hz : HM P et = some z) {x : Int} (f : N2 kd x es none) (hst : st ≠ 0 := by decide) :
  TK P h t (some id) (.int kd x) = some (z, false) := by
 have hg := a.get n hk
 unfold TK
 rw [hu]
 simp only [QI hs, if_true, Vg, hg]
 rw [if_pos hst]
 dsimp only
 rcases f.Cq hs 0 with ⟨_, h2⟩ | ⟨w, j, h1, h2⟩
 ·rw [h2]
  simp [hz]
 ·cases h1
theorem QW (hs : P.underlying kt = some .string) (s : List UInt8) : FM P 20 kt (.str s) = true := by
 unfold FM; rw [hs]
theorem HH.Xb (a : HH g h L F) (n : Nat) {id st : Nat} {es : List (AA × AA)} (hk : L[n]? = some (.obj id (.map st es))) (hu : P.underlying t = some (.map kt et)) (hs : P.underlying kt = some .string) {s : List UInt8} {v : AA} (f : Nq s es (some v)) (hst : st ≠ 0 := by decide) :
  TK P h t (some id) (.str s) = some (v, true) := by
 have hg := a.get n hk
 unfold TK
 rw [hu]
 simp only [QW hs, if_true, Vg, hg]
 rw [if_pos hst]
 dsimp only
 rcases f.Cq hs 0 with ⟨h1, _⟩ | ⟨w, j, h1, h2⟩
 ·cases h1
 ·cases h1
  rw [h2]
theorem HH.WN (a : HH g h L F) (n : Nat) {id st : Nat} {es : List (AA × AA)} (hk : L[n]? = some (.obj id (.map st es))) (hu : P.underlying t = some (.map kt et)) (hs : P.underlying kt = some .string) {z : AA} (hz : HM P et = some z) {s : List UInt8} (f : Nq s es none) (hst : st ≠ 0 := by decide) :
  TK P h t (some id) (.str s) = some (z, false) := by
 have hg := a.get n hk
 unfold TK
 rw [hu]
 simp only [QW hs, if_true, Vg, hg]
 rw [if_pos hst]
 dsimp only
 rcases f.Cq hs 0 with ⟨_, h2⟩ | ⟨w, j, h1, h2⟩
 ·rw [h2]
  simp [hz]
 ·cases h1
theorem HH.Wf (a : HH g h L F) (n : Nat) {id : Nat} {es : List (AA × AA)} (hk : L[n]? = some (.obj id (.map 2 es))) (hu : P.underlying t = some (.map kt et)) {k v : AA} (hok : FM P 20 kt k = true) (hf : Cq P kt k es 0 = some none) (hz : Fu g h v = some (v, h) := by rfl) :
  ∃ h', Xi P g h t (some id) k v = some h' ∧ HH g h' (L.set n (.obj id (.map 2 (es ++ [(k, v)])))) F := by
 have hg := a.get n hk
 have hm : g.may id = true := a.RI hk (by simp [Ck.ids])
 refine ⟨h.set id (.map 2 (es ++ [(k, v)])), ?_, a.set n _ hk⟩
 unfold Xi Gb
 rw [hz]
 show IN P g h t (.map (some id)) k v = _
 unfold IN
 rw [hu]
 simp only [hok, hm, and_self, if_true, hg, hf]
end
end Go.Av
