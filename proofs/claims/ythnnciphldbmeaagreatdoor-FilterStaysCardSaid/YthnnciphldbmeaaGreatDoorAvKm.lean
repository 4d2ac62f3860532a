/-
  AV: maps of known keys, of texts: what stands in them is known (functions among it).
-/
import Derived.Test.YthnnciphldbmeaaGreatDoorAvMap
namespace Go.Av
set_option linter.unusedVariables false
set_option linter.unusedSimpArgs false
inductive NZ (s : List UInt8) : List (AD × AD) → Option AD → Prop
 | nil : NZ s [] none
 | hit {k : List UInt8} {v : AD} {es : List (AD × AD)} : (s == k) = true → NZ s ((.str k, v) :: es) (some v)
 | GL {k : List UInt8} {v : AD} {es : List (AD × AD)} {r : Option AD} : (s == k) = false → NZ s es r → NZ s ((.str k, v) :: es) r
section
variable {P : Program} {t kt et : TypeId} {g : Gd} {h : AM} {L F : List Ck}
theorem NZ.Cx {s : List UInt8} (hs : P.underlying kt = some .string) : ∀ {es : List (AD × AD)} {r : Option AD} (f : NZ s es r) (i : Nat), (r = none ∧ Av.Cx P kt (.str s) es i = some none) ∨ ∃ v j, r = some v ∧ Av.Cx P kt (.str s) es i = some (some (j, v))
 | _, _, .nil, i => .inl ⟨rfl, rfl⟩
 | _, _, .hit (k := k) (v := v) (es := es) hb, i => by
  refine .inr ⟨v, i, rfl, ?_⟩
  unfold Av.Cx
  have e : IX P 10000 kt (.str s) (.str k) = some true := by
   show IX P (9999 + 1) kt _ _ = _
   unfold IX
   rw [hs]
   simp only [hb]
  rw [e]
 | _, _, .GL (k := k) (v := v) (es := es) hb f, i => by
  have e : IX P 10000 kt (.str s) (.str k) = some false := by
   show IX P (9999 + 1) kt _ _ = _
   unfold IX
   rw [hs]
   simp only [hb]
  unfold Av.Cx
  rw [e]
  exact f.Cx hs (i + 1)
inductive Nh (kd : IntKind) (x : Int) : List (AD × AD) → Option AD → Prop
 | nil : Nh kd x [] none
 | hit {k : Int} {v : AD} {es : List (AD × AD)} : (x == k) = true → Nh kd x ((.int kd k, v) :: es) (some v)
 | GL {k : Int} {v : AD} {es : List (AD × AD)} {r : Option AD} : (x == k) = false → Nh kd x es r → Nh kd x ((.int kd k, v) :: es) r
theorem Nh.Cx {kd kd' : IntKind} {x : Int} (hs : P.underlying kt = some (.int kd')) : ∀ {es : List (AD × AD)} {r : Option AD} (f : Nh kd x es r) (i : Nat), (r = none ∧ Av.Cx P kt (.int kd x) es i = some none) ∨ ∃ v j, r = some v ∧ Av.Cx P kt (.int kd x) es i = some (some (j, v))
 | _, _, .nil, i => .inl ⟨rfl, rfl⟩
 | _, _, .hit (k := k) (v := v) (es := es) hb, i => by
  refine .inr ⟨v, i, rfl, ?_⟩
  unfold Av.Cx
  have e : IX P 10000 kt (.int kd x) (.int kd k) = some true := by
   show IX P (9999 + 1) kt _ _ = _
   unfold IX
   rw [hs]
   simp only [if_true, hb]
  rw [e]
 | _, _, .GL (k := k) (v := v) (es := es) hb f, i => by
  have e : IX P 10000 kt (.int kd x) (.int kd k) = some false := by
   show IX P (9999 + 1) kt _ _ = _
   unfold IX
   rw [hs]
   simp only [if_true, hb]
  unfold Av.Cx
  rw [e]
  exact f.Cx hs (i + 1)
theorem Pt {kd kd' : IntKind} (hs : P.underlying kt = some (.int kd')) (x : Int) : Fk P 20 kt (.int kd x) = true := by
 unfold Fk; rw [hs]
theorem HH.Ug (a : HH g h L F) (n : Nat) {id st : Nat} {es : List (AD × AD)} (hk : L[n]? = some (.obj id (.map st es))) (hu : P.underlying t = some (.map kt et)) {kd kd' : IntKind} (hs : P.underlying kt = some (.int kd')) {x : Int} {v : AD} (f : Nh kd x es (some v)) (hst : st ≠ 0 := by decide) :
  S2 P h t (some id) (.int kd x) = some (v, true) := by
 have hg := a.get n hk
 unfold S2
 rw [hu]
 simp only [Pt hs, if_true, UN, hg]
 rw [if_pos hst]
 dsimp only
 rcases f.Cx hs 0 with ⟨h1, _⟩ | ⟨w, j, h1, h2⟩
 ·cases h1
 ·cases h1
  rw [h2]
theorem HH.VZ (a : HH g h L F) (n : Nat) {id st : Nat} {es : List (AD × AD)} (hk : L[n]? = some (.obj id (.map st es))) (hu : P.underlying t = some (.map kt et)) {kd kd' : IntKind} (hs : P.underlying kt = some (.int kd')) {z : AD} (hz : HT P et = some z) {x : Int} (f : Nh kd x es none) (hst : st ≠ 0 := by decide) :
  S2 P h t (some id) (.int kd x) = some (z, false) := by
 have hg := a.get n hk
 unfold S2
 rw [hu]
 simp only [Pt hs, if_true, UN, hg]
 rw [if_pos hst]
 dsimp only
 rcases f.Cx hs 0 with ⟨_, h2⟩ | ⟨w, j, h1, h2⟩
 ·rw [h2]
  simp [hz]
 ·cases h1
theorem P7 (hs : P.underlying kt = some .string) (s : List UInt8) : Fk P 20 kt (.str s) = true := by
 unfold Fk; rw [hs]
theorem HH.XB (a : HH g h L F) (n : Nat) {id st : Nat} {es : List (AD × AD)} (hk : L[n]? = some (.obj id (.map st es))) (hu : P.underlying t = some (.map kt et)) (hs : P.underlying kt = some .string) {s : List UInt8} {v : AD} (f : NZ s es (some v)) (hst : st ≠ 0 := by decide) :
  S2 P h t (some id) (.str s) = some (v, true) := by
 have hg := a.get n hk
 unfold S2
 rw [hu]
 simp only [P7 hs, if_true, UN, hg]
 rw [if_pos hst]
 dsimp only
 rcases f.Cx hs 0 with ⟨h1, _⟩ | ⟨w, j, h1, h2⟩
 ·cases h1
 ·cases h1
  rw [h2]
theorem HH.Vb (a : HH g h L F) (n : Nat) {id st : Nat} {es : List (AD × AD)} (hk : L[n]? = some (.obj id (.map st es))) (hu : P.underlying t = some (.map kt et)) (hs : P.underlying kt = some .string) {z : AD} (hz : HT P et = some z) {s : List UInt8} (f : NZ s es none) (hst : st ≠ 0 := by decide) :
  S2 P h t (some id) (.str s) = some (z, false) := by
 have hg := a.get n hk
 unfold S2
 rw [hu]
 simp only [P7 hs, if_true, UN, hg]
 rw [if_pos hst]
 dsimp only
 rcases f.Cx hs 0 with ⟨_, h2⟩ | ⟨w, j, h1, h2⟩
 ·rw [h2]
  simp [hz]
 ·cases h1
theorem HH.WL (a : HH g h L F) (n : Nat) {id : Nat} {es : List (AD × AD)} (hk : L[n]? = some (.obj id (.map 2 es))) (hu : P.underlying t = some (.map kt et)) {k v : AD} (hok : Fk P 20 kt k = true) (hf : Cx P kt k es 0 = some none) (hz : F4 g h v = some (v, h) := by rfl) :
  ∃ h', XH P g h t (some id) k v = some h' ∧ HH g h' (L.set n (.obj id (.map 2 (es ++ [(k, v)])))) F := by
 have hg := a.get n hk
 have hm : g.may id = true := a.Q6 hk (by simp [Ck.ids])
 refine ⟨h.set id (.map 2 (es ++ [(k, v)])), ?_, a.set n _ hk⟩
 unfold XH Gb
 rw [hz]
 show IW P g h t (.map (some id)) k v = _
 unfold IW
 rw [hu]
 simp only [hok, hm, and_self, if_true, hg, hf]
end
end Go.Av
