/-
 A part.
-/
import Derived.Test.YtlljeoogceblmaaGreatDoorAvMap
namespace Go.Av
set_option linter.unusedVariables false
set_option linter.unusedSimpArgs false
inductive MY (s : List UInt8) : List (AA × AA) → Option AA → Prop
 | nil : MY s [] none
 | hit {k : List UInt8} {v : AA} {es : List (AA × AA)} : (s == k) = true → MY s ((.str k, v) :: es) (some v)
 | Be {k : List UInt8} {v : AA} {es : List (AA × AA)} {r : Option AA} : (s == k) = false → MY s es r → MY s ((.str k, v) :: es) r
section
variable {P : Program} {t kt et : TypeId} {g : Gd} {h : AD} {L F : List Ck}
theorem MY.CZ {s : List UInt8} (hs : P.underlying kt = some .string) : ∀ {es : List (AA × AA)} {r : Option AA} (f : MY s es r) (i : Nat), (r = none ∧ Av.CZ P kt (.str s) es i = some none) ∨ ∃ v j, r = some v ∧ Av.CZ P kt (.str s) es i = some (some (j, v))
 | _, _, .nil, i => .inl ⟨rfl, rfl⟩
 | _, _, .hit (k := k) (v := v) (es := es) hb, i => by
  refine .inr ⟨v, i, rfl, ?_⟩
  unfold Av.CZ
  have e : Fb P 10000 kt (.str s) (.str k) = some true := by
   show Fb P (9999 + 1) kt _ _ = _
   unfold Fb
   rw [hs]
   simp only [hb]
  rw [e]
 | _, _, .Be (k := k) (v := v) (es := es) hb f, i => by
  have e : Fb P 10000 kt (.str s) (.str k) = some false := by
   show Fb P (9999 + 1) kt _ _ = _
   unfold Fb
   rw [hs]
   simp only [hb]
  unfold Av.CZ
  rw [e]
  exact f.CZ hs (i + 1)
theorem Pe (hs : P.underlying kt = some .string) (s : List UInt8) : EE P 20 kt (.str s) = true := by
 unfold EE; rw [hs]
theorem HH.Ew (a : HH g h L F) (n : Nat) {id st : Nat} {es : List (AA × AA)} (hk : L[n]? = some (.obj id (.map st es))) (hu : P.underlying t = some (.map kt et)) (hs : P.underlying kt = some .string) {s : List UInt8} {v : AA} (f : MY s es (some v)) (hst : st ≠ 0 := by decide) :
  WR P h t (some id) (.str s) = some (v, true) := by
 have hg := a.get n hk
 unfold WR
 rw [hu]
 simp only [Pe hs, if_true, ZE, hg]
 rw [if_pos hst]
 dsimp only
 rcases f.CZ hs 0 with ⟨h1, _⟩ | ⟨w, j, h1, h2⟩
 ·cases h1
 ·cases h1
  rw [h2]
theorem HH.TE (a : HH g h L F) (n : Nat) {id st : Nat} {es : List (AA × AA)} (hk : L[n]? = some (.obj id (.map st es))) (hu : P.underlying t = some (.map kt et)) (hs : P.underlying kt = some .string) {z : AA} (hz : Ga P et = some z) {s : List UInt8} (f : MY s es none) (hst : st ≠ 0 := by decide) :
  WR P h t (some id) (.str s) = some (z, false) := by
 have hg := a.get n hk
 unfold WR
 rw [hu]
 simp only [Pe hs, if_true, ZE, hg]
 rw [if_pos hst]
 dsimp only
 rcases f.CZ hs 0 with ⟨_, h2⟩ | ⟨w, j, h1, h2⟩
 ·rw [h2]
  simp [hz]
 ·cases h1
end
end Go.Av
