/-
 A part.
-/
import Derived.Test.YtdbkpibbjnhmgaaDoorAvHeap
import Derived.Laws.Tables
import Derived.Laws.Strings
import Derived.Laws.StructEq
import Derived.ChangeKeysEq
namespace Go.Av
open Go.RowKit
section
variable {P : Program} (w : World)
theorem AK {t : TypeId} {d : TypeDesc} (h : P.underlying t = some d) : (underlying t).run P w = .ok d w := run_underlying h w
theorem run_sizeOf {t : TypeId} {n : Nat} (h : Bf P t = some n) : (sizeOf t).run P w = .ok n w := by
 unfold Bf at h
 cases hi : P.info? t with
 | none => simp [hi] at h
 | some i => simp [hi] at h; subst h; simp [sizeOf, typeInfo, hi]
theorem IW {t : TypeId} {b : Bool} (h : Hd P t = some b) : (isAgg t).run P w = .ok b w := by
 unfold Hd at h
 cases hu : P.underlying t with
 | none => simp [hu] at h
 | some d =>
  simp only [isAgg, Sem.run_bind, AK w hu, Result.andThen_ok]
  rw [hu] at h
  cases d <;> simp at h <;> subst h <;> rfl
theorem E7 {m : AU} {t : TypeId} {cs : List AA} {ds : Array Value} {off : Nat} {x : AA} (hv : BU m cs ds.toList) (h : HG P t cs off = some x) :
  ∃ y, (part t ds off).run P w = .ok y w ∧ VR m x y := by
 unfold HG at h
 cases ha : Hd P t with
 | none => simp [ha] at h
 | some b =>
  cases b with
  | true =>
   simp only [ha] at h
   cases hn : Bf P t with
   | none => simp [hn] at h
   | some n =>
    simp only [hn, Option.bind_some] at h
    split at h
    ·rename_i hle
     injection h with h
     subst h
     refine ⟨.agg (ds.extract off (off + n)), by simp [part, IW w ha, run_sizeOf w hn], BU.agg ?_⟩
     have := (hv.drop off).take n
     simpa [Array.toList_extract] using this
    ·cases h
  | false =>
   simp only [ha] at h
   obtain ⟨y, hy, hv⟩ := hv.at_ h
   have hy' : ds[off]? = some y := by simpa using hy
   exact ⟨y, by simp [part, IW w ha, hy'], hv⟩
theorem JQ {m : AU} (eq : TypeId → AA → AA → Option Bool) (d : Nat)
  (ih : ∀ t x y x' y' b, VR m x x' → VR m y y' → eq t x y = some b → (Op.equalIn d t x' y').run P w = .ok b w)
  (xs ys : List AA) (xs' ys' : Array Value) (hx : BU m xs xs'.toList) (hy : BU m ys ys'.toList) :
  ∀ (fs : List Field) (b : Bool), eqFields P eq xs ys fs = some b → (Op.eqFields d xs' ys' fs).run P w = .ok b w
 | [], b, h => by simp [eqFields] at h; subst h; simp [Op.eqFields]
 | f :: fs, b, h => by
  have rec_ := JQ eq d ih xs ys xs' ys' hx hy fs b
  unfold eqFields at h
  unfold Op.eqFields
  by_cases hn : f.name = "_"
  ·rw [if_pos hn] at h
   rw [if_neg (by simpa using hn)]
   exact rec_ h
  ·rw [if_neg hn] at h
   rw [if_pos hn]
   split at h
   ·rename_i a c ha hc
    obtain ⟨a', ra, va⟩ := E7 w hx ha
    obtain ⟨c', rc, vc⟩ := E7 w hy hc
    split at h
    ·rename_i he
     have := ih _ _ _ _ _ _ va vc he
     simpa [ra, rc, this] using rec_ h
    ·rename_i he
     injection h with h
     subst h
     have := ih _ _ _ _ _ _ va vc he
     simp [ra, rc, this]
    ·cases h
   ·cases h
theorem Ki {m : AU} (eq : TypeId → AA → AA → Option Bool) (d : Nat)
  (ih : ∀ t x y x' y' b, VR m x x' → VR m y y' → eq t x y = some b → (Op.equalIn d t x' y').run P w = .ok b w)
  (e : TypeId) (z : Nat) (xs ys : List AA) (xs' ys' : Array Value) (hx : BU m xs xs'.toList) (hy : BU m ys ys'.toList) :
  ∀ (n i : Nat) (b : Bool), JP P eq e z xs ys n i = some b → (Op.eqItems d e z xs' ys' (List.range' i n)).run P w = .ok b w
 | 0, i, b, h => by simp [JP] at h; subst h; simp [Op.eqItems]
 | n + 1, i, b, h => by
  have rec_ := Ki eq d ih e z xs ys xs' ys' hx hy n (i + 1) b
  unfold JP at h
  rw [List.range'_succ]
  unfold Op.eqItems
  split at h
  ·rename_i a c ha hc
   obtain ⟨a', ra, va⟩ := E7 w hx ha
   obtain ⟨c', rc, vc⟩ := E7 w hy hc
   split at h
   ·rename_i he
    have := ih _ _ _ _ _ _ va vc he
    simpa [ra, rc, this] using rec_ h
   ·rename_i he
    injection h with h
    subst h
    have := ih _ _ _ _ _ _ va vc he
    simp [ra, rc, this]
   ·cases h
  ·cases h
theorem RH (a b : List UInt8) : ((⟨⟨a⟩⟩ : ByteArray) == ⟨⟨b⟩⟩) = (a == b) := by
 rw [beq_toListBytes, ByteArray.toList_eq, ByteArray.toList_eq]
theorem GG {m : AU} : ∀ (d : Nat) (t : TypeId) (x y : AA) (x' y' : Value) (b : Bool), VR m x x' → VR m y y' → HP P d t x y = some b → (Op.equalIn d t x' y').run P w = .ok b w
 | 0, _, _, _, _, _, _, _, _, h => by simp [HP] at h
 | d + 1, t, x, y, x', y', b, hx, hy, h => by
  have ih := GG (m := m) d
  unfold HP at h
  cases hu : P.underlying t with
  | none => simp [hu] at h
  | some u =>
   rw [hu] at h
   split at h
   ·rename_i e; injection e with e; subst e; injection h with h; subst h; cases hx; cases hy; simp [Op.equalIn, AK w hu]
   ·rename_i e; injection e with e; subst e; cases hx; cases hy
    split at h
    ·rename_i hk; injection h with h; subst h; subst hk; simp [Op.equalIn, AK w hu]
    ·cases h
   ·rename_i e; injection e with e; subst e; injection h with h; subst h
    rw [hx.B9, hy.B9]; simp [Op.equalIn, AK w hu, RH]
   ·rename_i e; injection e with e; subst e; injection h with h; subst h; cases hx; cases hy <;> simp [Op.equalIn, AK w hu]
   ·rename_i e; injection e with e; subst e; injection h with h; subst h; cases hx; cases hy <;> simp [Op.equalIn, AK w hu]
   ·rename_i e; injection e with e; subst e; injection h with h; subst h; cases hx; cases hy <;> simp [Op.equalIn, AK w hu]
   ·rename_i e; injection e with e; subst e; injection h with h; subst h; cases hx; cases hy <;> simp [Op.equalIn, AK w hu]
   ·rename_i e; injection e with e; subst e; injection h with h; subst h; cases hx; cases hy <;> simp [Op.equalIn, AK w hu]
   ·rename_i e; injection e with e; subst e; injection h with h; subst h; cases hx; cases hy <;> simp [Op.equalIn, AK w hu]
   ·rename_i e; injection e with e; subst e; injection h with h; subst h; cases hx; cases hy <;> simp [Op.equalIn, AK w hu]
   ·rename_i e; injection e with e; subst e; injection h with h; subst h; cases hx; cases hy <;> simp [Op.equalIn, AK w hu]
   ·rename_i fs xs ys e
    injection e with e; subst e
    obtain ⟨xs', rfl, vx⟩ := hx.Dy
    obtain ⟨ys', rfl, vy⟩ := hy.Dy
    split at h
    ·cases h
    ·rename_i hs
     have hf : P.fieldsOf t = fs := by simp [Program.fieldsOf, hu]
     rw [run_equalIn_struct w d t xs' ys' (by rw [hf]; exact hu) (by simpa using hs), hf]
     exact JQ w (HP P d) d ih _ _ _ _ vx vy _ _ h
   ·rename_i n e xs ys eq
    injection eq with eq; subst eq
    obtain ⟨xs', rfl, vx⟩ := hx.Dy
    obtain ⟨ys', rfl, vy⟩ := hy.Dy
    cases hz : Bf P e with
    | none => simp [hz] at h
    | some z =>
     rw [hz, Option.bind_some] at h
     have hz' := hz
     unfold Bf at hz'
     cases hi : P.info? e with
     | none => simp [hi] at hz'
     | some i =>
      have hc : P.cellsOf e = z := by simp [hi] at hz'; simp [Program.cellsOf, hi, hz']
      rw [run_equalIn_array w d xs' ys' hu hi, hc, List.range_eq_range']
      exact Ki w (HP P d) d ih e z _ _ _ _ vx vy _ _ _ h
   ·cases h
end
end Go.Av
