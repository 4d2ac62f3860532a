/-
  ABS, 33: channels of a run of one goroutine; a select with one case and a default; pointers to what is written no more.
-/
import Derived.Test.YtkdlmohhklimjaaGreatDoorAvTy
namespace Go.Av
set_option linter.unusedSimpArgs false
set_option linter.unusedVariables false
def eP {α : Type} (e : α → List AVal) (x : α) : List AVal := [.vptr (e x)]
theorem encP {α : Type} (e : α → List AVal) : Enc (eP e) 1 := ⟨fun _ => rfl, fun _ => rfl, fun _ => rfl⟩
section
variable {g : Gd} {h : AHeap} {L F : List Ck}
theorem HH.frzB {id : Nat} {cs : List AVal} (a : HH g h (.obj id (.cells none 2 cs) :: L) F) : ∃ h1, HH g h1 L F ∧ ∀ cs' h', frzL (frz1 g) cs h1 = some (cs', h') → frzP g h (.ptr (some (id, 0))) = some (.vptr cs', h') := by
 have hk : (Ck.obj id (.cells none 2 cs) :: L)[0]? = some (.obj id (.cells none 2 cs)) := rfl
 have hg := a.get 0 hk
 have hid := h.lt_of_get hg
 refine ⟨h.set id (.cells none 0 cs), ?_, fun cs' h' hx => ?_⟩
 ·have b := a.upd1 (d := .lst none 0 []) (h' := h.set id (.cells none 0 cs)) hk (by simp) (fun i _ hi => h.get_set_ne _ hid (by simpa [Ck.ids] using hi)) rfl (fun i hi => by simp [Ck.ids] at hi) (fun i hi => by simp [Ck.ids] at hi)
  exact HH.tail (c := .lst none 0 []) b
 ·simp only [frzP, hg, a.mayK hk (i := id) (by simp [Ck.ids]), cond_true, hx, Option.map_some]
theorem fz4T (vs : List AVal) : frz4 g h (.tuple vs) = (frzL (frzP g) vs h).map fun r => (.tuple r.1, r.2) := rfl
theorem fz4P (id : Nat) : frz4 g h (.ptr (some (id, 0))) = frzP g h (.ptr (some (id, 0))) := rfl
theorem fzP0 : frzP g h (.ptr none) = some (.ptr none, h) := rfl
theorem fzPA (cs : List AVal) : frzP g h (.agg cs) = (frzL (frz1 g) cs h).map fun r => (.agg r.1, r.2) := rfl
theorem fzPR (r : Option Nat) (n : Nat) : frzP g h (rowV r n) = frz1 g h (rowV r n) := rfl
theorem fzPV (n : Nat) (cs : List AVal) : frzP g h (.vsl n cs) = some (.vsl n cs, h) := rfl
theorem fzPQ (cs : List AVal) : frzP g h (.vptr cs) = some (.vptr cs, h) := rfl
theorem fzPI (k : IntKind) (n : Int) : frzP g h (.int k n) = some (.int k n, h) := rfl
theorem fzPB (b : Bool) : frzP g h (.bool b) = some (.bool b, h) := rfl
theorem fzPS (s : List UInt8) : frzP g h (.str s) = some (.str s, h) := rfl
theorem fzPN : frzP g h (.slice none 0) = some (.vsl 0 [], h) := rfl
theorem fz1Q (cs : List AVal) : frz1 g h (.vptr cs) = some (.vptr cs, h) := rfl
theorem fz10 : frz1 g h (.ptr none) = some (.ptr none, h) := rfl
end
end Go.Av
