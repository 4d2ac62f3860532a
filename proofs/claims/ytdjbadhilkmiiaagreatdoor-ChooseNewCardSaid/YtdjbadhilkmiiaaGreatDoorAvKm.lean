/-
 A part.
-/
import Derived.Test.YtdjbadhilkmiiaaGreatDoorAvMap
namespace Go.Av
set_option linter.unusedVariables false
set_option linter.unusedSimpArgs false
inductive NN (s : List UInt8) : List (AB × AB) → Option AB → Prop
 | nil : NN s [] none
 | hit {k : List UInt8} {v : AB} {es : List (AB × AB)} : (s == k) = true → NN s ((.str k, v) :: es) (some v)
 | EW {k : List UInt8} {v : AB} {es : List (AB × AB)} {r : Option AB} : (s == k) = false → NN s es r → NN s ((.str k, v) :: es) r
section
variable {P : Program} {t kt et : TypeId} {g : Gd} {h : AJ} {L F : List Ck}
theorem NN.DE {s : List UInt8} (hs : P.underlying kt = some .string) : ∀ {es : List (AB × AB)} {r : Option AB} (f : NN s es r) (i : Nat), (r = none ∧ Av.DE P kt (.str s) es i = some none) ∨ ∃ v j, r = some v ∧ Av.DE P kt (.str s) es i = some (some (j, v))
 | _, _, .nil, i => .inl ⟨rfl, rfl⟩
 | _, _, .hit (k := k) (v := v) (es := es) hb, i => by
  refine .inr ⟨v, i, rfl, ?_⟩
  unfold Av.DE
  have e : IG P 10000 kt (.str s) (.str k) = some true := by
   show IG P (9999 + 1) kt _ _ = _
   unfold IG
   rw [hs]
   simp only [hb]
  rw [e]
 | _, _, .EW (k := k) (v := v) (es := es) hb f, i => by
  have e : IG P 10000 kt (.str s) (.str k) = some false := by
   show IG P (9999 + 1) kt _ _ = _
   unfold IG
   rw [hs]
   simp only [hb]
  unfold Av.DE
  rw [e]
  exact f.DE hs (i + 1)
inductive OE (kd : IntKind) (x : Int) : List (AB × AB) → Option AB → Prop
 | nil : OE kd x [] none
 | hit {k : Int} {v : AB} {es : List (AB × AB)} : (x == k) = true → OE kd x ((.int kd k, v) :: es) (some v)
 | EW {k : Int} {v : AB} {es : List (AB × AB)} {r : Option AB} : (x == k) = false → OE kd x es r → OE kd x ((.int kd k, v) :: es) r
theorem OE.DE {kd kd' : IntKind} {x : Int} (hs : P.underlying kt = some (.int kd')) : ∀ {es : List (AB × AB)} {r : Option AB} (f : OE kd x es r) (i : Nat), (r = none ∧ Av.DE P kt (.int kd x) es i = some none) ∨ ∃ v j, r = some v ∧ Av.DE P kt (.int kd x) es i = some (some (j, v))
 | _, _, .nil, i => .inl ⟨rfl, rfl⟩
 | _, _, .hit (k := k) (v := v) (es := es) hb, i => by
  refine .inr ⟨v, i, rfl, ?_⟩
  unfold Av.DE
  have e : IG P 10000 kt (.int kd x) (.int kd k) = some true := by
   show IG P (9999 + 1) kt _ _ = _
   unfold IG
   rw [hs]
   simp only [if_true, hb]
  rw [e]
 | _, _, .EW (k := k) (v := v) (es := es) hb f, i => by
  have e : IG P 10000 kt (.int kd x) (.int kd k) = some false := by
   show IG P (9999 + 1) kt _ _ = _
   unfold IG
   rw [hs]
   simp only [if_true, hb]
  unfold Av.DE
  rw [e]
  exact f.DE hs (i + 1)
theorem TF {kd kd' : IntKind} (hs : P.underlying kt = some (.int kd')) (x : Int) : FQ P 20 kt (.int kd x) = true := by
 unfold FQ; rw [hs]
theorem HH.VI (a : HH g h L F) (n : Nat) {id st : Nat} {es : List (AB × AB)} (hk : L[n]? = some (.obj id (.map st es))) (hu : P.underlying t = some (.map kt et)) {kd kd' : IntKind} (hs : P.underlying kt = some (.int kd')) {z : AB} (hz : HA P et = some z) {x : Int} (f : OE kd x es none) (hst : st ≠ 0 := by decide) :
  S3 P h t (some id) (.int kd x) = some (z, false) := by
 have hg := a.get n hk
 unfold S3
 rw [hu]
 simp only [TF hs, if_true, Ui, hg]
 rw [if_pos hst]
 dsimp only
 rcases f.DE hs 0 with ⟨_, h2⟩ | ⟨w, j, h1, h2⟩
 ·rw [h2]
  simp [hz]
 ·cases h1
theorem Pd (hs : P.underlying kt = some .string) (s : List UInt8) : FQ P 20 kt (.str s) = true := by
 unfold FQ; rw [hs]
theorem HH.UJ (a : HH g h L F) (n : Nat) {id st : Nat} {es : List (AB × AB)} (hk : L[n]? = some (.obj id (.map st es))) (hu : P.underlying t = some (.map kt et)) (hs : P.underlying kt = some .string) {s : List UInt8} {v : AB} (f : NN s es (some v)) (hst : st ≠ 0 := by decide) :
  S3 P h t (some id) (.str s) = some (v, true) := by
 have hg := a.get n hk
 unfold S3
 rw [hu]
 simp only [Pd hs, if_true, Ui, hg]
 rw [if_pos hst]
 dsimp only
 rcases f.DE hs 0 with ⟨h1, _⟩ | ⟨w, j, h1, h2⟩
 ·cases h1
 ·cases h1
  rw [h2]
theorem HH.VE (a : HH g h L F) (n : Nat) {id st : Nat} {es : List (AB × AB)} (hk : L[n]? = some (.obj id (.map st es))) (hu : P.underlying t = some (.map kt et)) (hs : P.underlying kt = some .string) {z : AB} (hz : HA P et = some z) {s : List UInt8} (f : NN s es none) (hst : st ≠ 0 := by decide) :
  S3 P h t (some id) (.str s) = some (z, false) := by
 have hg := a.get n hk
 unfold S3
 rw [hu]
 simp only [Pd hs, if_true, Ui, hg]
 rw [if_pos hst]
 dsimp only
 rcases f.DE hs 0 with ⟨_, h2⟩ | ⟨w, j, h1, h2⟩
 ·rw [h2]
  simp [hz]
 ·cases h1
theorem HH.VY (a : HH g h L F) (n : Nat) {id : Nat} {es : List (AB × AB)} (hk : L[n]? = some (.obj id (.map 2 es))) (hu : P.underlying t = some (.map kt et)) {k v : AB} (hok : FQ P 20 kt k = true) (hf : DE P kt k es 0 = some none) (hz : Fl g h v = some (v, h) := by rfl) :
  ∃ h', WU P g h t (some id) k v = some h' ∧ HH g h' (L.set n (.obj id (.map 2 (es ++ [(k, v)])))) F := by
 have hg := a.get n hk
 have hm : g.may id = true := a.P0 hk (by simp [Ck.ids])
 refine ⟨h.set id (.map 2 (es ++ [(k, v)])), ?_, a.set n _ hk⟩
 unfold WU GN
 rw [hz]
 show H9 P g h t (.map (some id)) k v = _
 unfold H9
 rw [hu]
 simp only [hok, hm, and_self, if_true, hg, hf]
end
end Go.Av
