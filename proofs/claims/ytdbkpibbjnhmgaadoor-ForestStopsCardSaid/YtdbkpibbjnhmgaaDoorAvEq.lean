/-
 A part.
-/
import Derived.Test.YtdbkpibbjnhmgaaDoorAvHeap
import Derived.Laws.Tables
import Derived.Laws.Strings
import Derived.Laws.StructEq
import Derived.ChangeKeysEq
namespace Go.Av
open Go.RowKit
section
variable {P : Program} (w : World)
theorem AH {t : TypeId} {d : TypeDesc} (h : P.underlying t = some d) : (underlying t).run P w = .ok d w := run_underlying h w
theorem run_sizeOf {t : TypeId} {n : Nat} (h : BR P t = some n) : (sizeOf t).run P w = .ok n w := by
 unfold BR at h
 cases hi : P.info? t with
 | none => simp [hi] at h
 | some i => simp [hi] at h; subst h; simp [sizeOf, typeInfo, hi]
theorem Hp {t : TypeId} {b : Bool} (h : HI P t = some b) : (isAgg t).run P w = .ok b w := by
 unfold HI at h
 cases hu : P.underlying t with
 | none => simp [hu] at h
 | some d =>
  simp only [isAgg, Sem.run_bind, AH w hu, Result.andThen_ok]
  rw [hu] at h
  cases d <;> simp at h <;> subst h <;> rfl
theorem Eh {m : AP} {t : TypeId} {cs : List AA} {ds : Array Value} {off : Nat} {x : AA} (hv : BI m cs ds.toList) (h : Gn P t cs off = some x) :
  ∃ y, (part t ds off).run P w = .ok y w ∧ VR m x y := by
 unfold Gn at h
 cases ha : HI P t with
 | none => simp [ha] at h
 | some b =>
  cases b with
  | true =>
   simp only [ha] at h
   cases hn : BR P t with
   | none => simp [hn] at h
   | some n =>
    simp only [hn, Option.bind_some] at h
    split at h
    ·rename_i hle
     injection h with h
     subst h
     refine ⟨.agg (ds.extract off (off + n)), by simp [part, Hp w ha, run_sizeOf w hn], BI.agg ?_⟩
     have := (hv.drop off).take n
     simpa [Array.toList_extract] using this
    ·cases h
  | false =>
   simp only [ha] at h
   obtain ⟨y, hy, hv⟩ := hv.at_ h
   have hy' : ds[off]? = some y := by simpa using hy
   exact ⟨y, by simp [part, Hp w ha, hy'], hv⟩
theorem Io {m : AP} (eq : TypeId → AA → AA → Option Bool) (d : Nat)
  (ih : ∀ t x y x' y' b, VR m x x' → VR m y y' → eq t x y = some b → (Op.equalIn d t x' y').run P w = .ok b w)
  (xs ys : List AA) (xs' ys' : Array Value) (hx : BI m xs xs'.toList) (hy : BI m ys ys'.toList) :
  ∀ (fs : List Field) (b : Bool), eqFields P eq xs ys fs = some b → (Op.eqFields d xs' ys' fs).run P w = .ok b w
 | [], b, h => by simp [eqFields] at h; subst h; simp [Op.eqFields]
 | f :: fs, b, h => by
  have rec_ := Io eq d ih xs ys xs' ys' hx hy fs b
  unfold eqFields at h
  unfold Op.eqFields
  by_cases hn : f.name = "_"
  ·rw [if_pos hn] at h
   rw [if_neg (by simpa using hn)]
   exact rec_ h
  ·rw [if_neg hn] at h
   rw [if_pos hn]
   split at h
   ·rename_i a c ha hc
    obtain ⟨a', ra, va⟩ := Eh w hx ha
    obtain ⟨c', rc, vc⟩ := Eh w hy hc
    split at h
    ·rename_i he
     have := ih _ _ _ _ _ _ va vc he
     simpa [ra, rc, this] using rec_ h
    ·rename_i he
     injection h with h
     subst h
     have := ih _ _ _ _ _ _ va vc he
     simp [ra, rc, this]
    ·cases h
   ·cases h
theorem Jy {m : AP} (eq : TypeId → AA → AA → Option Bool) (d : Nat)
  (ih : ∀ t x y x' y' b, VR m x x' → VR m y y' → eq t x y = some b → (Op.equalIn d t x' y').run P w = .ok b w)
  (e : TypeId) (z : Nat) (xs ys : List AA) (xs' ys' : Array Value) (hx : BI m xs xs'.toList) (hy : BI m ys ys'.toList) :
  ∀ (n i : Nat) (b : Bool), JA P eq e z xs ys n i = some b → (Op.eqItems d e z xs' ys' (List.range' i n)).run P w = .ok b w
 | 0, i, b, h => by simp [JA] at h; subst h; simp [Op.eqItems]
 | n + 1, i, b, h => by
  have rec_ := Jy eq d ih e z xs ys xs' ys' hx hy n (i + 1) b
  unfold JA at h
  rw [List.range'_succ]
  unfold Op.eqItems
  split at h
  ·rename_i a c ha hc
   obtain ⟨a', ra, va⟩ := Eh w hx ha
   obtain ⟨c', rc, vc⟩ := Eh w hy hc
   split at h
   ·rename_i he
    have := ih _ _ _ _ _ _ va vc he
    simpa [ra, rc, this] using rec_ h
   ·rename_i he
    injection h with h
    subst h
    have := ih _ _ _ _ _ _ va vc he
    simp [ra, rc, this]
   ·cases h
  ·cases h
theorem Pz (a b : List UInt8) : ((⟨⟨a⟩⟩ : ByteArray) == ⟨⟨b⟩⟩) = (a == b) := by
 rw [beq_toListBytes, ByteArray.toList_eq, ByteArray.toList_eq]
theorem Ff {m : AP} : ∀ (d : Nat) (t : TypeId) (x y : AA) (x' y' : Value) (b : Bool), VR m x x' → VR m y y' → Gx P d t x y = some b → (Op.equalIn d t x' y').run P w = .ok b w
 | 0, _, _, _, _, _, _, _, _, h => by simp [Gx] at h
 | d + 1, t, x, y, x', y', b, hx, hy, h => by
  have ih := Ff (m := m) d
  unfold Gx at h
  cases hu : P.underlying t with
  | none => simp [hu] at h
  | some u =>
   rw [hu] at h
   split at h
   ·rename_i e; injection e with e; subst e; injection h with h; subst h; cases hx; cases hy; simp [Op.equalIn, AH w hu]
   ·rename_i e; injection e with e; subst e; cases hx; cases hy
    split at h
    ·rename_i hk; injection h with h; subst h; subst hk; simp [Op.equalIn, AH w hu]
    ·cases h
   ·rename_i e; injection e with e; subst e; injection h with h; subst h
    rw [hx.Bn, hy.Bn]; simp [Op.equalIn, AH w hu, Pz]
   ·rename_i e; injection e with e; subst e; injection h with h; subst h; cases hx; cases hy <;> simp [Op.equalIn, AH w hu]
   ·rename_i e; injection e with e; subst e; injection h with h; subst h; cases hx; cases hy <;> simp [Op.equalIn, AH w hu]
   ·rename_i e; injection e with e; subst e; injection h with h; subst h; cases hx; cases hy <;> simp [Op.equalIn, AH w hu]
   ·rename_i e; injection e with e; subst e; injection h with h; subst h; cases hx; cases hy <;> simp [Op.equalIn, AH w hu]
   ·rename_i e; injection e with e; subst e; injection h with h; subst h; cases hx; cases hy <;> simp [Op.equalIn, AH w hu]
   ·rename_i e; injection e with e; subst e; injection h with h; subst h; cases hx; cases hy <;> simp [Op.equalIn, AH w hu]
   ·rename_i e; injection e with e; subst e; injection h with h; subst h; cases hx; cases hy <;> simp [Op.equalIn, AH w hu]
   ·rename_i e; injection e with e; subst e; injection h with h; subst h; cases hx; cases hy <;> simp [Op.equalIn, AH w hu]
   ·rename_i fs xs ys e
    injection e with e; subst e
    obtain ⟨xs', rfl, vx⟩ := hx.Db
    obtain ⟨ys', rfl, vy⟩ := hy.Db
    split at h
    ·cases h
    ·rename_i hs
     have hf : P.fieldsOf t = fs := by simp [Program.fieldsOf, hu]
     rw [run_equalIn_struct w d t xs' ys' (by rw [hf]; exact hu) (by simpa using hs), hf]
     exact Io w (Gx P d) d ih _ _ _ _ vx vy _ _ h
   ·rename_i n e xs ys eq
    injection eq with eq; subst eq
    obtain ⟨xs', rfl, vx⟩ := hx.Db
    obtain ⟨ys', rfl, vy⟩ := hy.Db
    cases hz : BR P e with
    | none => simp [hz] at h
    | some z =>
     rw [hz, Option.bind_some] at h
     have hz' := hz
     unfold BR at hz'
     cases hi : P.info? e with
     | none => simp [hi] at hz'
     | some i =>
      have hc : P.cellsOf e = z := by simp [hi] at hz'; simp [Program.cellsOf, hi, hz']
      rw [run_equalIn_array w d xs' ys' hu hi, hc, List.range_eq_range']
      exact Jy w (Gx P d) d ih e z _ _ _ _ vx vy _ _ _ h
   ·cases h
end
end Go.Av
