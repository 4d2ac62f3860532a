/-
  AV: maps of known keys, of texts: what stands in them is known (functions among it).
-/
import Derived.Test.YtkdlmohhklimjaaGreatDoorAvMap
namespace Go.Av
set_option linter.unusedVariables false
set_option linter.unusedSimpArgs false
section
variable {P : Program} {t kt et : TypeId} {g : Gd} {h : AHeap} {L F : List Ck}
inductive FindI (kd : IntKind) (x : Int) : List (AVal × AVal) → Option AVal → Prop
 | nil : FindI kd x [] none
 | hit {k : Int} {v : AVal} {es : List (AVal × AVal)} : (x == k) = true → FindI kd x ((.int kd k, v) :: es) (some v)
 | miss {k : Int} {v : AVal} {es : List (AVal × AVal)} {r : Option AVal} : (x == k) = false → FindI kd x es r → FindI kd x ((.int kd k, v) :: es) r
theorem FindI.findA {kd kd' : IntKind} {x : Int} (hs : P.underlying kt = some (.int kd')) : ∀ {es : List (AVal × AVal)} {r : Option AVal} (f : FindI kd x es r) (i : Nat), (r = none ∧ Av.findA P kt (.int kd x) es i = some none) ∨ ∃ v j, r = some v ∧ Av.findA P kt (.int kd x) es i = some (some (j, v))
 | _, _, .nil, i => .inl ⟨rfl, rfl⟩
 | _, _, .hit (k := k) (v := v) (es := es) hb, i => by
  refine .inr ⟨v, i, rfl, ?_⟩
  unfold Av.findA
  have e : eqA P 10000 kt (.int kd x) (.int kd k) = some true := by
   show eqA P (9999 + 1) kt _ _ = _
   unfold eqA
   rw [hs]
   simp only [if_true, hb]
  rw [e]
 | _, _, .miss (k := k) (v := v) (es := es) hb f, i => by
  have e : eqA P 10000 kt (.int kd x) (.int kd k) = some false := by
   show eqA P (9999 + 1) kt _ _ = _
   unfold eqA
   rw [hs]
   simp only [if_true, hb]
  unfold Av.findA
  rw [e]
  exact f.findA hs (i + 1)
theorem keyOk_int {kd kd' : IntKind} (hs : P.underlying kt = some (.int kd')) (x : Int) : keyOkA P 20 kt (.int kd x) = true := by
 unfold keyOkA; rw [hs]
theorem HH.mlookI (a : HH g h L F) (n : Nat) {id : Nat} {es : List (AVal × AVal)} (hk : L[n]? = some (.obj id (.map 2 es))) (hu : P.underlying t = some (.map kt et)) {kd kd' : IntKind} (hs : P.underlying kt = some (.int kd')) {x : Int} {v : AVal} (f : FindI kd x es (some v)) :
  mpL P h t (some id) (.int kd x) = some (v, true) := by
 have hg := a.get n hk
 unfold mpL
 rw [hu]
 simp only [keyOk_int hs, if_true, mpE, hg]
 rw [if_pos (by decide)]
 dsimp only
 rcases f.findA hs 0 with ⟨h1, _⟩ | ⟨w, j, h1, h2⟩
 ·cases h1
 ·cases h1
  rw [h2]
theorem HH.mlookIN (a : HH g h L F) (n : Nat) {id : Nat} {es : List (AVal × AVal)} (hk : L[n]? = some (.obj id (.map 2 es))) (hu : P.underlying t = some (.map kt et)) {kd kd' : IntKind} (hs : P.underlying kt = some (.int kd')) {z : AVal} (hz : zeroA P et = some z) {x : Int} (f : FindI kd x es none) :
  mpL P h t (some id) (.int kd x) = some (z, false) := by
 have hg := a.get n hk
 unfold mpL
 rw [hu]
 simp only [keyOk_int hs, if_true, mpE, hg]
 rw [if_pos (by decide)]
 dsimp only
 rcases f.findA hs 0 with ⟨_, h2⟩ | ⟨w, j, h1, h2⟩
 ·rw [h2]
  simp [hz]
 ·cases h1
theorem HH.msetC (a : HH g h L F) (n : Nat) {id : Nat} {es : List (AVal × AVal)} (hk : L[n]? = some (.obj id (.map 2 es))) (hu : P.underlying t = some (.map kt et)) {k v : AVal} (hok : keyOkA P 20 kt k = true) (hf : findA P kt k es 0 = some none) :
  ∃ h', mpS P g h t (some id) k v = some h' ∧ HH g h' (L.set n (.obj id (.map 2 (es ++ [(k, v)])))) F := by
 have hg := a.get n hk
 have hm : g.may id = true := a.mayK hk (by simp [Ck.ids])
 refine ⟨h.set id (.map 2 (es ++ [(k, v)])), ?_, a.set n _ hk⟩
 unfold mpS mapSetA
 rw [hu]
 simp only [hok, hm, and_self, if_true, hg, hf]
end
end Go.Av
