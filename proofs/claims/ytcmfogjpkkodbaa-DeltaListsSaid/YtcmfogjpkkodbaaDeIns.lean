/-
  Delta: one that is put into a list that rises.
-/
import Derived.Test.YtcmfogjpkkodbaaDeA
namespace Go.Av.L
open Go.Av Go.Lib
set_option linter.unusedVariables false
set_option linter.unusedSimpArgs false

/-- one round of 'insert', and its end -/
def stI (m : Mb) (s : List Mb × Bool) (_ : Nat) (x : Mb) : List Mb × Bool := bif !s.2 && Op.bytesLess m.Name x.Name then (s.1 ++ [m] ++ [x], true) else (s.1 ++ [x], s.2)
def fnI (m : Mb) (s : List Mb × Bool) : List Mb := bif s.2 then s.1 else s.1 ++ [m]
theorem insert38 (l : List Mb) (m : Mb) (hl : l.length ≤ 1000) : M_boulterref38_insert_sOR l m = some (insM l m) := by
  unfold M_boulterref38_insert_sOR
  have h := loopL (l := l) (step := M_boulterref38_insert_sOR_L0 l m) (enc := fun (s : List Mb × Bool) i => (s.1, s.2, (i : Int))) (stI m) (fun s i => s.1.length ≤ i + 1 ∧ (s.2 = false → s.1.length ≤ i)) (fun s => s)
    (fun s _ => by unfold M_boulterref38_insert_sOR_L0; dsimp only; rw [iteB_dec, if_neg (by omega)])
    (fun s i hi hs => by
      obtain ⟨out, d⟩ := s
      dsimp only at hs
      have hok : ∀ (k : Nat), k ≤ 3000 → okN 168 k = true := fun k hk => okN_of (by omega) (by omega)
      cases d with
      | true =>
        rw [show stI m (out, true) i l[i] = (out ++ [l[i]], true) from rfl]
        refine ⟨?_, by simp; omega⟩
        unfold M_boulterref38_insert_sOR_L0; dsimp only
        rw [iteB_dec, if_pos (by omega), ixV_get hi, ek64 (by omega)]
        simp only [Bool.not_true, iteB_false, Option.bind_some, Bool.false_and, cond_false]
        rw [hok _ (by simp; omega)]; rfl
      | false =>
        have h2 := hs.2 rfl
        unfold M_boulterref38_insert_sOR_L0; dsimp only
        rw [iteB_dec, if_pos (by omega), ixV_get hi, ek64 (by omega)]
        simp only [Bool.not_false, iteB_true, Option.bind_some, Bool.true_and]
        rw [hok _ (by simp; omega)]
        cases hb : Op.bytesLess m.Name l[i].Name with
        | false =>
          rw [show stI m (out, false) i l[i] = (out ++ [l[i]], false) from by simp [stI, hb]]
          refine ⟨?_, by simp; omega⟩
          simp only [iteB_false, Option.bind_some, cond_false]
          rw [hok _ (by simp; omega)]; rfl
        | true =>
          rw [show stI m (out, false) i l[i] = (out ++ [m] ++ [l[i]], true) from by simp [stI, hb]]
          refine ⟨?_, by simp; omega⟩
          simp only [iteB_true, need, Option.bind_some, cond_true]
          rw [hok _ (by simp; omega)]) ([], false) ⟨by simp, by simp⟩
  have key : ∀ (l : List Mb) (out : List Mb) (k : Nat), foldI (stI m) (out, true) l k = (out ++ l, true) := by
    intro l
    induction l with
    | nil => intro out k; simp [foldI]
    | cons x l ih => intro out k; unfold foldI; rw [show stI m (out, true) k x = (out ++ [x], true) from rfl, ih]; simp
  have key2 : ∀ (l : List Mb) (out : List Mb) (k : Nat), fnI m (foldI (stI m) (out, false) l k) = out ++ insM l m := by
    intro l
    induction l with
    | nil => intro out k; rfl
    | cons x l ih =>
      intro out k
      unfold foldI insM
      cases hb : Op.bytesLess m.Name x.Name with
      | true => rw [show stI m (out, false) k x = (out ++ [m] ++ [x], true) from by simp [stI, hb], key]; simp [fnI]
      | false => rw [show stI m (out, false) k x = (out ++ [x], false) from by simp [stI, hb], ih]; simp
  have h1 := h.1
  have h2 := h.2
  have h3 := key2 l [] 0
  dsimp only at h1
  rw [show (([] : List Mb), false, (0 : Int)) = (([] : List Mb), false, ((0 : Nat) : Int)) from rfl, h1, Option.bind_some]
  generalize foldI (stI m) (([] : List Mb), false) l 0 = r at h2 h3 ⊢
  obtain ⟨out, d⟩ := r
  dsimp only at h2 h3 ⊢
  cases d with
  | true => simpa [fnI] using h3
  | false =>
    rw [okN_of (by simp; omega) (by simp; omega)]
    simpa [need, fnI] using h3
end Go.Av.L
