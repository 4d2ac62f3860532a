/-
 A part.
-/
import Derived.Test.YtlljeoogceblmaaGreatDoorAvHeap
import Derived.Laws.Tables
import Derived.Laws.Strings
import Derived.Laws.StructEq
import Derived.ChangeKeysEq
namespace Go.Av
open Go.RowKit
section
variable {P : Program} (w : World)
theorem Aa {t : TypeId} {d : TypeDesc} (h : P.underlying t = some d) : (underlying t).run P w = .ok d w := run_underlying h w
theorem run_sizeOf {t : TypeId} {n : Nat} (h : B6 P t = some n) : (sizeOf t).run P w = .ok n w := by
 unfold B6 at h
 cases hi : P.info? t with
 | none => simp [hi] at h
 | some i => simp [hi] at h; subst h; simp [sizeOf, typeInfo, hi]
theorem Kt {t : TypeId} {b : Bool} (h : Io P t = some b) : (isAgg t).run P w = .ok b w := by
 unfold Io at h
 cases hu : P.underlying t with
 | none => simp [hu] at h
 | some d =>
  simp only [isAgg, Sem.run_bind, Aa w hu, Result.andThen_ok]
  rw [hu] at h
  cases d <;> simp at h <;> subst h <;> rfl
theorem G0 {m : A4} {t : TypeId} {cs : List AB} {ds : Array Value} {off : Nat} {x : AB} (hv : Bx m cs ds.toList) (h : IT P t cs off = some x) :
  ∃ y, (part t ds off).run P w = .ok y w ∧ VR m x y := by
 unfold IT at h
 cases ha : Io P t with
 | none => simp [ha] at h
 | some b =>
  cases b with
  | true =>
   simp only [ha] at h
   cases hn : B6 P t with
   | none => simp [hn] at h
   | some n =>
    simp only [hn, Option.bind_some] at h
    split at h
    ·rename_i hle
     injection h with h
     subst h
     refine ⟨.agg (ds.extract off (off + n)), by simp [part, Kt w ha, run_sizeOf w hn], Bx.agg ?_⟩
     have := (hv.drop off).take n
     simpa [Array.toList_extract] using this
    ·cases h
  | false =>
   simp only [ha] at h
   obtain ⟨y, hy, hv⟩ := hv.at_ h
   have hy' : ds[off]? = some y := by simpa using hy
   exact ⟨y, by simp [part, Kt w ha, hy'], hv⟩
theorem L3 {m : A4} (eq : TypeId → AB → AB → Option Bool) (d : Nat)
  (ih : ∀ t x y x' y' b, VR m x x' → VR m y y' → eq t x y = some b → (Op.equalIn d t x' y').run P w = .ok b w)
  (xs ys : List AB) (xs' ys' : Array Value) (hx : Bx m xs xs'.toList) (hy : Bx m ys ys'.toList) :
  ∀ (fs : List Field) (b : Bool), eqFields P eq xs ys fs = some b → (Op.eqFields d xs' ys' fs).run P w = .ok b w
 | [], b, h => by simp [eqFields] at h; subst h; simp [Op.eqFields]
 | f :: fs, b, h => by
  have rec_ := L3 eq d ih xs ys xs' ys' hx hy fs b
  unfold eqFields at h
  unfold Op.eqFields
  by_cases hn : f.name = "_"
  ·rw [if_pos hn] at h
   rw [if_neg (by simpa using hn)]
   exact rec_ h
  ·rw [if_neg hn] at h
   rw [if_pos hn]
   split at h
   ·rename_i a c ha hc
    obtain ⟨a', ra, va⟩ := G0 w hx ha
    obtain ⟨c', rc, vc⟩ := G0 w hy hc
    split at h
    ·rename_i he
     have := ih _ _ _ _ _ _ va vc he
     simpa [ra, rc, this] using rec_ h
    ·rename_i he
     injection h with h
     subst h
     have := ih _ _ _ _ _ _ va vc he
     simp [ra, rc, this]
    ·cases h
   ·cases h
theorem M6 {m : A4} (eq : TypeId → AB → AB → Option Bool) (d : Nat)
  (ih : ∀ t x y x' y' b, VR m x x' → VR m y y' → eq t x y = some b → (Op.equalIn d t x' y').run P w = .ok b w)
  (e : TypeId) (z : Nat) (xs ys : List AB) (xs' ys' : Array Value) (hx : Bx m xs xs'.toList) (hy : Bx m ys ys'.toList) :
  ∀ (n i : Nat) (b : Bool), MG P eq e z xs ys n i = some b → (Op.eqItems d e z xs' ys' (List.range' i n)).run P w = .ok b w
 | 0, i, b, h => by simp [MG] at h; subst h; simp [Op.eqItems]
 | n + 1, i, b, h => by
  have rec_ := M6 eq d ih e z xs ys xs' ys' hx hy n (i + 1) b
  unfold MG at h
  rw [List.range'_succ]
  unfold Op.eqItems
  split at h
  ·rename_i a c ha hc
   obtain ⟨a', ra, va⟩ := G0 w hx ha
   obtain ⟨c', rc, vc⟩ := G0 w hy hc
   split at h
   ·rename_i he
    have := ih _ _ _ _ _ _ va vc he
    simpa [ra, rc, this] using rec_ h
   ·rename_i he
    injection h with h
    subst h
    have := ih _ _ _ _ _ _ va vc he
    simp [ra, rc, this]
   ·cases h
  ·cases h
theorem UZ (a b : List UInt8) : ((⟨⟨a⟩⟩ : ByteArray) == ⟨⟨b⟩⟩) = (a == b) := by
 rw [beq_toListBytes, ByteArray.toList_eq, ByteArray.toList_eq]
theorem Ig {m : A4} : ∀ (d : Nat) (t : TypeId) (x y : AB) (x' y' : Value) (b : Bool), VR m x x' → VR m y y' → IH P d t x y = some b → (Op.equalIn d t x' y').run P w = .ok b w
 | 0, _, _, _, _, _, _, _, _, h => by simp [IH] at h
 | d + 1, t, x, y, x', y', b, hx, hy, h => by
  have ih := Ig (m := m) d
  unfold IH at h
  cases hu : P.underlying t with
  | none => simp [hu] at h
  | some u =>
   rw [hu] at h
   split at h
   ·rename_i e; injection e with e; subst e; injection h with h; subst h; cases hx; cases hy; simp [Op.equalIn, Aa w hu]
   ·rename_i e; injection e with e; subst e; cases hx; cases hy
    split at h
    ·rename_i hk; injection h with h; subst h; subst hk; simp [Op.equalIn, Aa w hu]
    ·cases h
   ·rename_i e; injection e with e; subst e; injection h with h; subst h
    rw [hx.Dn, hy.Dn]; simp [Op.equalIn, Aa w hu, UZ]
   ·rename_i e; injection e with e; subst e; injection h with h; subst h; cases hx; cases hy <;> simp [Op.equalIn, Aa w hu]
   ·rename_i e; injection e with e; subst e; injection h with h; subst h; cases hx; cases hy <;> simp [Op.equalIn, Aa w hu]
   ·rename_i e; injection e with e; subst e; injection h with h; subst h; cases hx; cases hy <;> simp [Op.equalIn, Aa w hu]
   ·rename_i e; injection e with e; subst e; injection h with h; subst h; cases hx; cases hy <;> simp [Op.equalIn, Aa w hu]
   ·rename_i e; injection e with e; subst e; injection h with h; subst h; cases hx; cases hy <;> simp [Op.equalIn, Aa w hu]
   ·rename_i e; injection e with e; subst e; injection h with h; subst h; cases hx; cases hy <;> simp [Op.equalIn, Aa w hu]
   ·rename_i e; injection e with e; subst e; injection h with h; subst h; cases hx; cases hy <;> simp [Op.equalIn, Aa w hu]
   ·rename_i e; injection e with e; subst e; injection h with h; subst h; cases hx; cases hy <;> simp [Op.equalIn, Aa w hu]
   ·rename_i fs xs ys e
    injection e with e; subst e
    obtain ⟨xs', rfl, vx⟩ := hx.FE
    obtain ⟨ys', rfl, vy⟩ := hy.FE
    split at h
    ·cases h
    ·rename_i hs
     have hf : P.fieldsOf t = fs := by simp [Program.fieldsOf, hu]
     rw [run_equalIn_struct w d t xs' ys' (by rw [hf]; exact hu) (by simpa using hs), hf]
     exact L3 w (IH P d) d ih _ _ _ _ vx vy _ _ h
   ·rename_i n e xs ys eq
    injection eq with eq; subst eq
    obtain ⟨xs', rfl, vx⟩ := hx.FE
    obtain ⟨ys', rfl, vy⟩ := hy.FE
    cases hz : B6 P e with
    | none => simp [hz] at h
    | some z =>
     rw [hz, Option.bind_some] at h
     have hz' := hz
     unfold B6 at hz'
     cases hi : P.info? e with
     | none => simp [hi] at hz'
     | some i =>
      have hc : P.cellsOf e = z := by simp [hi] at hz'; simp [Program.cellsOf, hi, hz']
      rw [run_equalIn_array w d xs' ys' hu hi, hc, List.range_eq_range']
      exact M6 w (IH P d) d ih e z _ _ _ _ vx vy _ _ _ h
   ·cases h
end
end Go.Av
