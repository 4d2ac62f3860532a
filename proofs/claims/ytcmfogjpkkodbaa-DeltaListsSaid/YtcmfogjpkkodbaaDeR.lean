/-
  Delta: the document's last ones.
-/
import Derived.Test.YtcmfogjpkkodbaaDeA
namespace Go.Av.L
open Go.Av Go.Lib
set_option linter.unusedVariables false
set_option linter.unusedSimpArgs false

theorem find12 (l : List Mb) (n : Str) (hl : l.length < 4611686018427387904) : M_boulterref12_Find l n = some (findI l n) := by
  unfold M_boulterref12_Find
  have h := (loopL (l := l) (step := M_boulterref12_Find_L0 l n) (enc := fun s i => (s, (i : Int))) (fun s i (x : Mb) => bif x.Name == n then (i : Int) else s) (fun _ _ => True) (fun s => s)
    (fun s _ => by unfold M_boulterref12_Find_L0; dsimp only; rw [iteB_dec, if_neg (by omega)])
    (fun s i hi _ => by
      refine ⟨?_, trivial⟩
      unfold M_boulterref12_Find_L0; dsimp only
      rw [iteB_dec, if_pos (by omega), ixV_get hi, Option.bind_some, ek64 (by omega)]
      cases l[i].Name == n <;> rfl) (-1) trivial).1
  rw [show ((-1 : Int), (0 : Int)) = ((-1 : Int), ((0 : Nat) : Int)) from rfl, h, Option.bind_some, find_fold]
  unfold findI
  cases lastIx l n <;> simp
theorem last38 (l : List Mb) (hl : l.length ≤ 1000) : M_boulterref38_Last l = some (lastL l) := by
  unfold M_boulterref38_Last
  have h := (loopL (l := l) (step := M_boulterref38_Last_L0 l) (enc := fun s i => (s, (i : Int))) (fun out i (x : Mb) => bif (fun i (x : Mb) => findI l x.Name == ((i : Nat) : Int)) i x then out ++ [x] else out) (fun out i => out.length ≤ i) (fun s => s)
    (fun s _ => by unfold M_boulterref38_Last_L0; dsimp only; rw [iteB_dec, if_neg (by omega)])
    (fun s i hi hs => by
      refine ⟨?_, ?_⟩
      · unfold M_boulterref38_Last_L0; dsimp only
        rw [iteB_dec, if_pos (by omega), ixV_get hi, Option.bind_some, find12 _ _ (by omega), Option.bind_some, Option.bind_some, ek64 (by omega)]
        have hok : okN 168 (s.length + ([l[i]] : List Mb).length) = true := okN_of (by simp; omega) (by simp; omega)
        rw [hok]
        cases findI l l[i].Name == (i : Int) <;> rfl
      · dsimp only
        cases findI l l[i].Name == (i : Int)
        · simp; omega
        · simp; omega) [] (Nat.zero_le _)).1
  rw [show (([] : List Mb), (0 : Int)) = (([] : List Mb), ((0 : Nat) : Int)) from rfl, h, Option.bind_some]
  rw [lastFold l (fun _ => true) (fun i (x : Mb) => findI l x.Name == ((i : Nat) : Int)) (fun i hi => by
    rw [Bool.and_true, Bool.eq_iff_iff, beq_iff_eq, findI_eq, lastIx_at hi]; simp)]
  simp
end Go.Av.L
