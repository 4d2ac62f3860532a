/-
  AV: maps of known keys, of texts: what stands in them is known (functions among it).
-/
import Derived.Test.YtdpebdaplhfbjaaGreatDoorAvMap
namespace Go.Av
set_option linter.unusedVariables false
set_option linter.unusedSimpArgs false
inductive FindC (s : List UInt8) : List (AVal × AVal) → Option AVal → Prop
 | nil : FindC s [] none
 | hit {k : List UInt8} {v : AVal} {es : List (AVal × AVal)} : (s == k) = true → FindC s ((.str k, v) :: es) (some v)
 | miss {k : List UInt8} {v : AVal} {es : List (AVal × AVal)} {r : Option AVal} : (s == k) = false → FindC s es r → FindC s ((.str k, v) :: es) r
section
variable {P : Program} {t kt et : TypeId} {g : Gd} {h : AHeap} {L F : List Ck}
theorem FindC.findA {s : List UInt8} (hs : P.underlying kt = some .string) : ∀ {es : List (AVal × AVal)} {r : Option AVal} (f : FindC s es r) (i : Nat), (r = none ∧ Av.findA P kt (.str s) es i = some none) ∨ ∃ v j, r = some v ∧ Av.findA P kt (.str s) es i = some (some (j, v))
 | _, _, .nil, i => .inl ⟨rfl, rfl⟩
 | _, _, .hit (k := k) (v := v) (es := es) hb, i => by
  refine .inr ⟨v, i, rfl, ?_⟩
  unfold Av.findA
  have e : eqA P 10000 kt (.str s) (.str k) = some true := by
   show eqA P (9999 + 1) kt _ _ = _
   unfold eqA
   rw [hs]
   simp only [hb]
  rw [e]
 | _, _, .miss (k := k) (v := v) (es := es) hb f, i => by
  have e : eqA P 10000 kt (.str s) (.str k) = some false := by
   show eqA P (9999 + 1) kt _ _ = _
   unfold eqA
   rw [hs]
   simp only [hb]
  unfold Av.findA
  rw [e]
  exact f.findA hs (i + 1)
theorem keyOk_str (hs : P.underlying kt = some .string) (s : List UInt8) : keyOkA P 20 kt (.str s) = true := by
 unfold keyOkA; rw [hs]
theorem HH.mlookC (a : HH g h L F) (n : Nat) {id st : Nat} {es : List (AVal × AVal)} (hk : L[n]? = some (.obj id (.map st es))) (hu : P.underlying t = some (.map kt et)) (hs : P.underlying kt = some .string) {s : List UInt8} {v : AVal} (f : FindC s es (some v)) (hst : st ≠ 0 := by decide) :
  mpL P h t (some id) (.str s) = some (v, true) := by
 have hg := a.get n hk
 unfold mpL
 rw [hu]
 simp only [keyOk_str hs, if_true, mpE, hg]
 rw [if_pos hst]
 dsimp only
 rcases f.findA hs 0 with ⟨h1, _⟩ | ⟨w, j, h1, h2⟩
 ·cases h1
 ·cases h1
  rw [h2]
theorem HH.mlookCN (a : HH g h L F) (n : Nat) {id st : Nat} {es : List (AVal × AVal)} (hk : L[n]? = some (.obj id (.map st es))) (hu : P.underlying t = some (.map kt et)) (hs : P.underlying kt = some .string) {z : AVal} (hz : zeroA P et = some z) {s : List UInt8} (f : FindC s es none) (hst : st ≠ 0 := by decide) :
  mpL P h t (some id) (.str s) = some (z, false) := by
 have hg := a.get n hk
 unfold mpL
 rw [hu]
 simp only [keyOk_str hs, if_true, mpE, hg]
 rw [if_pos hst]
 dsimp only
 rcases f.findA hs 0 with ⟨_, h2⟩ | ⟨w, j, h1, h2⟩
 ·rw [h2]
  simp [hz]
 ·cases h1
end
end Go.Av
