/-
  OCCUR: the rows of which none was picked.
-/
import Derived.Test.YtimjggadeingjaaOccurPick
namespace Go.Abs.L
open Go.Abs
set_option linter.unusedVariables false
set_option linter.unusedSimpArgs false

/-- the rows below k whose count is below m -/
def missing (cnt : List Int) (m : Int) : Nat → List Int
  | 0 => []
  | k + 1 => missing cnt m k ++ if cnt.getD k 0 < m then [(k : Int)] else []
theorem missing_length (cnt : List Int) (m : Int) : ∀ k, (missing cnt m k).length ≤ k
  | 0 => Nat.le_refl _
  | k + 1 => by
    have := missing_length cnt m k
    unfold missing
    split <;> simp <;> omega

theorem missing_spec {g : Gd} {h : AHeap} {id : Nat} {n rows : Int} {cnt : List Int} (p : Pick h id n rows cnt) (hr : 0 ≤ rows ∧ rows ≤ 257) (hfl : g.floor ≤ h.size) (hpr : g.prot = []) :
    W (M_occur_Picker_Missing g h (some (id, 0))) fun r => Grow g h r.2 3 1 r.1 (arr .i64 (missing cnt (max n 1) rows.toNat)) ∧ r.1.n = (missing cnt (max n 1) rows.toNat).length := by
  unfold M_occur_Picker_Missing
  simp only [Option.bind_some, p.rows_]
  have hsub : subA h (id, 0 + 2) 257 1 none (some rows) = some ⟨some (id, 0 + 2 + 0 * 1), rows.toNat - 0⟩ := by
    unfold subA
    simp only [p.1]
    rw [bnd_hi (by omega)]; rfl
  rw [hsub]
  simp only [Option.bind_some]
  refine W.bind (W.mono (Q := fun r => Grow g h r.2 3 1 r.1 (arr .i64 (missing cnt (max n 1) rows.toNat)) ∧ r.1.n = (missing cnt (max n 1) rows.toNat).length) ?_ (fun r hr => W.ret hr))
  refine W.loop (fun s => ∃ k : Nat, s.2.1 = k ∧ k ≤ rows.toNat ∧ Grow g h s.2.2 3 1 s.1 (arr .i64 (missing cnt (max n 1) k)) ∧ s.1.n = (missing cnt (max n 1) k).length) (fun s => rows.toNat - s.2.1.toNat) ⟨0, rfl, by omega, Grow.nil (Only.refl _ _), rfl⟩ ?_
  rintro ⟨x6, i, h1⟩ ⟨k, ei, hk, w, hn⟩
  dsimp only at ei w hn
  subst ei
  unfold M_occur_Picker_Missing_L0
  dsimp only
  refine W.iteP (fun hlt => ?_) (fun hge => ?_)
  · have hlt : k < rows.toNat := by simp at hlt; omega
    have p1 : Pick h1 id n rows cnt := ⟨w.only.keep p.1 (by simp), p.2⟩
    have hcl : k < cnt.length := by rw [p.2]; omega
    have hgd : cnt.getD k 0 = cnt[k] := by simp [List.getD_eq_getElem?_getD, List.getElem?_eq_getElem hcl]
    have hml := missing_length cnt (max n 1) k
    have eix : ixL (⟨some (id, 0 + 2 + 0 * 1), rows.toNat - 0⟩ : Sl) 1 (k : Int) = some (id, 0 + 2 + k * 1) := ixA_nat (a := (id, 0 + 2 + 0 * 1)) (by simpa using hlt)
    rw [eix]
    simp only [Option.bind_some, p1.cnt_ (List.getElem?_eq_getElem hcl), p1.n_]
    have emx : mx n 1 = max n 1 := by unfold mx; omega
    have ek : IntKind.i64.wrap ((k : Int) + 1) = ((k + 1 : Nat) : Int) := by rw [w64 (by omega) (by omega)]; omega
    rw [emx, ek]
    refine W.bind (W.iteP (fun hm => ?_) (fun hm => ?_))
    · refine W.bind (W.mono (w.app1 (e' := 3) (new := [.int .i64 (k : Int)]) rfl rfl (by omega) (by omega) hfl hpr) ?_)
      rintro ⟨s', h'⟩ ⟨w', n'⟩
      refine W.ret (W.ret ⟨⟨k + 1, rfl, by omega, ?_, ?_⟩, by dsimp only; omega⟩)
      · have : missing cnt (max n 1) (k + 1) = missing cnt (max n 1) k ++ [(k : Int)] := by rw [missing, hgd, if_pos hm]
        rw [this]
        simpa [arr] using w'
      · dsimp only at n' ⊢
        rw [missing, hgd, if_pos hm, n', hn]; simp
    · refine W.ret (W.ret ⟨⟨k + 1, rfl, by omega, ?_, ?_⟩, by dsimp only; omega⟩)
      · have : missing cnt (max n 1) (k + 1) = missing cnt (max n 1) k := by rw [missing, hgd, if_neg hm]; simp
        rw [this]; exact w
      · dsimp only
        rw [missing, hgd, if_neg hm, hn]; simp
  · have : k = rows.toNat := by simp at hge; omega
    subst this
    exact W.ret ⟨w, hn⟩
end Go.Abs.L
