/-
 A part.
-/
import Derived.Test.YtlljeoogceblmaaGreatDoorAvMap
namespace Go.Av
set_option linter.unusedVariables false
set_option linter.unusedSimpArgs false
inductive Mm (s : List UInt8) : List (AB × AB) → Option AB → Prop
 | nil : Mm s [] none
 | hit {k : List UInt8} {v : AB} {es : List (AB × AB)} : (s == k) = true → Mm s ((.str k, v) :: es) (some v)
 | CN {k : List UInt8} {v : AB} {es : List (AB × AB)} {r : Option AB} : (s == k) = false → Mm s es r → Mm s ((.str k, v) :: es) r
section
variable {P : Program} {t kt et : TypeId} {g : Gd} {h : AF} {L F : List Ck}
theorem Mm.DG {s : List UInt8} (B : P.underlying kt = some .string) : ∀ {es : List (AB × AB)} {r : Option AB} (f : Mm s es r) (i : Nat), (r = none ∧ Av.DG P kt (.str s) es i = some none) ∨ ∃ v j, r = some v ∧ Av.DG P kt (.str s) es i = some (some (j, v))
 | _, _, .nil, i => .inl ⟨rfl, rfl⟩
 | _, _, .hit (k := k) (v := v) (es := es) E, i => by
  refine .inr ⟨v, i, rfl, ?_⟩
  unfold Av.DG
  have e : Ho P 10000 kt (.str s) (.str k) = some true := by
   show Ho P (9999 + 1) kt _ _ = _
   unfold Ho
   rw [B]
   simp only [E]
  rw [e]
 | _, _, .CN (k := k) (v := v) (es := es) E f, i => by
  have e : Ho P 10000 kt (.str s) (.str k) = some false := by
   show Ho P (9999 + 1) kt _ _ = _
   unfold Ho
   rw [B]
   simp only [E]
  unfold Av.DG
  rw [e]
  exact f.DG B (i + 1)
theorem Ou (B : P.underlying kt = some .string) (s : List UInt8) : Ed P 20 kt (.str s) = true := by
 unfold Ed; rw [B]
theorem HH.FC (a : HH g h L F) (n : Nat) {id st : Nat} {es : List (AB × AB)} (hk : L[n]? = some (.obj id (.map st es))) (hu : P.underlying t = some (.map kt et)) (B : P.underlying kt = some .string) {s : List UInt8} {v : AB} (f : Mm s es (some v)) (C : st ≠ 0 := by decide) :
  T3 P h t (some id) (.str s) = some (v, true) := by
 have D := a.get n hk
 unfold T3
 rw [hu]
 simp only [Ou B, if_true, XU, D]
 rw [if_pos C]
 dsimp only
 rcases f.DG B 0 with ⟨h1, _⟩ | ⟨w, j, h1, h2⟩
 ·cases h1
 ·cases h1
  rw [h2]
theorem HH.Sg (a : HH g h L F) (n : Nat) {id st : Nat} {es : List (AB × AB)} (hk : L[n]? = some (.obj id (.map st es))) (hu : P.underlying t = some (.map kt et)) (B : P.underlying kt = some .string) {z : AB} (hz : Fm P et = some z) {s : List UInt8} (f : Mm s es none) (C : st ≠ 0 := by decide) :
  T3 P h t (some id) (.str s) = some (z, false) := by
 have D := a.get n hk
 unfold T3
 rw [hu]
 simp only [Ou B, if_true, XU, D]
 rw [if_pos C]
 dsimp only
 rcases f.DG B 0 with ⟨_, h2⟩ | ⟨w, j, h1, h2⟩
 ·rw [h2]
  simp [hz]
 ·cases h1
end
end Go.Av
