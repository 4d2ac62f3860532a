/-
  Several texts in one.
-/
import Derived.Test.YthnnciphldbmeaaGreatDoorFiC
import Derived.Test.YthnnciphldbmeaaGreatDoorFiL
import Derived.Test.YthnnciphldbmeaaGreatDoorAvNum
import Derived.Test.YthnnciphldbmeaaGreatDoorK0
import Derived.Test.YthnnciphldbmeaaGreatDoorK1
import Derived.Test.YthnnciphldbmeaaGreatDoorK2
import Derived.Test.YthnnciphldbmeaaGreatDoorK3
import Derived.Test.YthnnciphldbmeaaGreatDoorK4
import Derived.Test.YthnnciphldbmeaaGreatDoorK5
import Derived.Test.YthnnciphldbmeaaGreatDoorK6
import Derived.Test.YthnnciphldbmeaaGreatDoorK7
import Derived.Test.YthnnciphldbmeaaGreatDoorK8
/-
  An index of the directories that members tag.
-/
section
namespace Go.Av.L
open Go.Av Go.Lib
set_option linter.unusedVariables false
set_option linter.unusedSimpArgs false
section
variable {K V : Type} [DecidableEq K]
theorem Sm (m : List (K × V)) (k : K) (v : V) (n : K) : Di (F7 m k v) n = if n = k then some v else Di m n := by
 induction m with
 | nil => simp [F7, Di]
 | cons p m ih =>
  obtain ⟨k', v'⟩ := p
  unfold F7
  by_cases h : k = k'
  ·subst h; simp only [if_true, Di]; by_cases h2 : n = k <;> simp [h2]
  ·rw [if_neg h]; simp only [Di, ih]
   by_cases h2 : n = k'
   ·subst h2; simp [Ne.symm h]
   ·simp [h2]
theorem NN (m : List (K × V)) (k : K) (v : V) : (F7 m k v).map Prod.fst = if k ∈ m.map Prod.fst then m.map Prod.fst else m.map Prod.fst ++ [k] := by
 induction m with
 | nil => simp [F7]
 | cons p m ih =>
  obtain ⟨k', v'⟩ := p
  unfold F7
  by_cases h : k = k'
  ·subst h; simp
  ·rw [if_neg h]; simp only [List.map_cons, ih, List.mem_cons, h, false_or]
   split <;> simp
theorem S9 {m : List (K × V)} (h : (m.map Prod.fst).Nodup) (k : K) (v : V) : ((F7 m k v).map Prod.fst).Nodup := by
 rw [NN]
 split
 ·exact h
 ·rename_i hk
  rw [List.nodup_append]
  exact ⟨h, by simp, fun a ha b hb => by simp at hb; subst hb; rintro rfl; exact hk ha⟩
end
theorem put_eq {m : Ay} {d : CT} (hb : d.length < 800000000) : C2 m d = some (F7 m.Cf (pj (Ae d)) true) := by
 have hl := Ez d
 have hj := Fp d
 unfold C2
 rw [MH (by omega), Option.bind_some, NT (fun x hx => KC hx) (by omega) (by omega), Option.bind_some]
end Go.Av.L
end
/-
  What is ahead of the last component; what tags.
-/
section
namespace Go.Av.L
open Go.Av Go.Lib
set_option linter.unusedVariables false
set_option linter.unusedSimpArgs false
theorem R4 {s : CT} (hb : s.length < 800000000) : ∃ b, Fw s = some (pj (Ae s).dropLast, b) := by
 have hl := Ez s
 unfold Fw
 rw [MH (by omega), Option.bind_some, BT]
 by_cases h : (Ae s).length < 2
 ·rw [if_pos (by omega)]
  refine ⟨false, ?_⟩
  have : (Ae s).dropLast = [] := List.length_eq_zero_iff.1 (by rw [List.length_dropLast]; omega)
  rw [this]; rfl
 ·rw [if_neg (by omega)]
  have e : IntKind.i64.wrap (((Ae s).length : Int) - 1) = (((Ae s).length - 1 : Nat) : Int) := by rw [Ti (by omega) (by omega)]; omega
  have h1 := JV (Ae s)
  have h2 := Fp s
  rw [e, Qw (by omega), Option.bind_some, ← List.dropLast_eq_take, NT (fun x hx => GM hx) (by rw [List.length_dropLast]; omega) (by omega), Option.bind_some]
  exact ⟨true, rfl⟩
theorem XC {n p : CT} {k : Int} (hb : n.length < 800000000) : E6 n k p = some (bif tagged n k p then (pj (Ae n).dropLast, true) else ([], false)) := by
 obtain ⟨b, hp⟩ := R4 hb
 unfold E6 tagged
 rw [UT (by omega), Option.bind_some]
 show (Aa (k != 48) (some true) (some (!((Ae n).getLast?.getD [] == G4)))).bind _ = _
 rw [Rj, hasPrefix, Option.bind_some]
 show ((Aa (k != 48) (some true) (some (!((Ae n).getLast? == some G4)))).bind fun x1 => (Aa x1 (some true) (some (!(p.take 43 == TJ)))).bind _) = _
 rw [hp]
 have : (k != 48) = !(k == 48) := rfl
 rw [this]
 cases (k == 48) <;> cases ((Ae n).getLast? == some G4) <;> cases (p.take 43 == TJ) <;> rfl
end Go.Av.L
end
/-
  What a list's members tag.
-/
section
namespace Go.Av.L
open Go.Av Go.Lib
set_option linter.unusedVariables false
set_option linter.unusedSimpArgs false
def mapOf (l : List Mb) : List (CT × Bool) := l.foldl (fun m x => bif tagged x.Name x.Kind x.Data then F7 m (pj (Ae x.Name).dropLast) true else m) []
theorem U3 {l : List Mb} (hl : l.length < 1000000) (h : ∀ m ∈ l, m.Name.length < 10000) : F5 l = some (⟨mapOf l⟩ : Ay) := by
 unfold F5 Fm
 rw [Option.bind_some]
 have := Wm (step := Ek l) (l := l) (enc := fun (m : List (CT × Bool)) i => (m, (i : Int))) (f := fun m _ x => bif tagged x.Name x.Kind x.Data then F7 m (pj (Ae x.Name).dropLast) true else m) (P := fun _ _ => True) (fin := fun m => m)
  (fun s _ => by rw [Ek, BT, if_neg (by omega)])
  (fun s i hi _ => by
   have hx := h _ (List.getElem_mem hi)
   have h2 := JV (Ae l[i].Name)
   have h3 := Fp l[i].Name
   refine ⟨?_, trivial⟩
   rw [Ek, BT, if_pos (by omega), Eh hi, Option.bind_some, XC (by omega), Md (by omega)]
   cases tagged l[i].Name l[i].Kind l[i].Data with
   | false => rfl
   | true =>
    simp only [cond_true, Option.bind_some, Dm]
    rw [put_eq (by omega), Ir _ (fun y hy => GM hy)]
    rfl) [] trivial
 rw [show (0 : Int) = ((0 : Nat) : Int) from rfl, this.1, Option.bind_some, LY]
 rfl
end Go.Av.L
end
/-
  The chapter's example holds.
-/
section
namespace Go.Av.L
open Go.Av Go.Lib
set_option maxRecDepth 100000
theorem RJ : C8 = some true := by kernel_rfl
end Go.Av.L
end
