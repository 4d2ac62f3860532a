/-
  AV: arrays of one's own, at places that are reckoned.
-/
import Derived.Test.YtiodcbipjnmpgaaAvTy
namespace Go.Av
set_option linter.unusedVariables false
set_option linter.unusedSimpArgs false
section
variable {α : Type} {g : Gd} {h : AHeap} {L F : List Ck}
theorem ixV_lt {ws : List α} {i : Int} {x : α} (hx : ixV ws i = some x) : 0 ≤ i ∧ i.toNat < ws.length ∧ ws[i.toNat]? = some x := by
 unfold ixV at hx
 split at hx
 ·exact ⟨by omega, (List.getElem?_eq_some_iff.1 hx).1, hx⟩
 ·cases hx
theorem ixA_of {ws : List α} {i : Int} {x : α} (hx : ixV ws i = some x) (a : Nat × Nat) (z : Nat) {n : Nat} (hn : ws.length = n) : ixA a n z i = some (a.1, a.2 + i.toNat * z) := by
 obtain ⟨h1, h2, _⟩ := ixV_lt hx
 unfold ixA
 rw [if_pos ⟨h1, by omega⟩]
theorem HH.ldW (a : HH g h L F) (k : Nat) {id : Nat} {gr : Option TypeId} {cs : List AVal} (hk : L[k]? = some (.obj id (.cells gr 2 cs))) (off : Nat) (f : α → AVal) (ws : List α) (hcs : (cs.drop off).take ws.length = ws.map f) {i : Int} {x : α} (hx : ixV ws i = some x) : Av.ld1 h (id, off + i.toNat * 1) = some (f x) := by
 obtain ⟨h1, h2, h3⟩ := ixV_lt hx
 refine a.ld1 k hk ?_
 have := congrArg (·[i.toNat]?) hcs
 simp only [List.getElem?_take, h2, if_true, List.getElem?_drop, List.getElem?_map, h3, Option.map_some] at this
 rw [Nat.mul_one]; exact this
def setW : List α → Int → α → List α
 | [], _, _ => []
 | w :: r, i, y => (bif i == 0 then y else w) :: setW r (i - 1) y
theorem setW_eq (y : α) : ∀ (ws : List α) (i : Int), 0 ≤ i → setW ws i y = ws.set i.toNat y
 | [], i, _ => by simp [setW]
 | w :: r, i, h => by
  rw [setW]
  by_cases h0 : i = 0
  ·subst h0
   have e : ∀ (r : List α) (j : Int), j < 0 → setW r j y = r := by
    intro r
    induction r with
    | nil => intro j _; rfl
    | cons w r ih =>
     intro j hj
     have : (j == 0) = false := by simp; omega
     rw [setW, this, cond_false, ih (j - 1) (by omega)]
   rw [e r (0 - 1) (by omega)]; simp
  ·have e1 : (i == 0) = false := by simpa using h0
   obtain ⟨m, hm⟩ : ∃ m : Nat, i.toNat = m + 1 := ⟨i.toNat - 1, by omega⟩
   rw [e1, cond_false, setW_eq y r (i - 1) (by omega), hm, show (i - 1).toNat = m by omega]
   simp
theorem splice_mid1 (pre mid post : List AVal) (j : Nat) (v : AVal) (hj : j < mid.length) : splice (pre ++ (mid ++ post)) (pre.length + j) [v] = pre ++ (mid.set j v ++ post) := by
 unfold splice
 have e1 : (pre ++ (mid ++ post)).take (pre.length + j) = pre ++ mid.take j := by
  rw [List.take_append, List.take_of_length_le (by omega), show pre.length + j - pre.length = j by omega, List.take_append_of_le_length (by omega)]
 have e2 : (pre ++ (mid ++ post)).drop (pre.length + j + [v].length) = mid.drop (j + 1) ++ post := by
  rw [List.drop_append, List.drop_of_length_le (by simp; omega), List.nil_append, show pre.length + j + [v].length - pre.length = j + 1 by simp; omega, List.drop_append_of_le_length (by omega)]
 rw [e1, e2, List.set_eq_take_append_cons_drop, if_pos hj]
 simp
theorem HH.stW (a : HH g h L F) (k : Nat) {id : Nat} {gr : Option TypeId} {cs ds : List AVal} (hk : L[k]? = some (.obj id (.cells gr 2 cs))) (off : Nat) (f : α → AVal) (ws : List α) {i : Int} {x : α} (y : α) (hcs : (cs.drop off).take ws.length = ws.map f) (hx : ixV ws i = some x) (h1 : (f y).one = true)
  (hd : cs.take off ++ ((setW ws i y).map f ++ cs.drop (off + ws.length)) = ds) : ∃ h', Av.st g h (id, off + i.toNat * 1) [f y] = some h' ∧ HH g h' (L.set k (.obj id (.cells gr 2 ds))) F := by
 obtain ⟨h2, h3, h4⟩ := ixV_lt hx
 have hl : ws.length ≤ cs.length - off := by
  have := congrArg List.length hcs
  simp only [List.length_take, List.length_drop, List.length_map] at this
  omega
 refine a.st k hk (o := off + i.toNat * 1) (by simp; omega) (by simpa using h1) ?_
 subst hd
 rw [setW_eq y ws i h2, Nat.mul_one]
 have e : cs = cs.take off ++ (ws.map f ++ cs.drop (off + ws.length)) := by
  conv => lhs; rw [← List.take_append_drop off cs, ← List.take_append_drop ws.length (cs.drop off), hcs, List.drop_drop]
 have ht : (cs.take off).length = off := by rw [List.length_take]; omega
 have := splice_mid1 (cs.take off) (ws.map f) (cs.drop (off + ws.length)) i.toNat (f y) (by simpa using h3)
 rw [← e, ht] at this
 rw [this, List.map_set]
end
end Go.Av
