/-
  Several texts in one.
-/
import Derived.Test.YtipknimgfcokeaaGreatDoorAvTy
/-
  AV: arrays of one's own, at places that are reckoned.
-/
section
namespace Go.Av
set_option linter.unusedVariables false
set_option linter.unusedSimpArgs false
section
variable {α : Type} {g : Gd} {h : AH} {L F : List Ck}
theorem Qq {ws : List α} {i : Int} {x : α} (hx : Ff ws i = some x) : 0 ≤ i ∧ i.toNat < ws.length ∧ ws[i.toNat]? = some x := by
 unfold Ff at hx
 split at hx
 ·exact ⟨by omega, (List.getElem?_eq_some_iff.1 hx).1, hx⟩
 ·cases hx
theorem IF {ws : List α} {i : Int} {x : α} (hx : Ff ws i = some x) (a : Nat × Nat) (z : Nat) {n : Nat} (hn : ws.length = n) : UW a n z i = some (a.1, a.2 + i.toNat * z) := by
 obtain ⟨h1, h2, _⟩ := Qq hx
 unfold UW
 rw [if_pos ⟨h1, by omega⟩]
theorem HH.Vb (a : HH g h L F) (k : Nat) {id : Nat} {gr : Option TypeId} {cs : List AB} (hk : L[k]? = some (.obj id (.cells gr 2 cs))) (off : Nat) (f : α → AB) (ws : List α) (hcs : (cs.drop off).take ws.length = ws.map f) {i : Int} {x : α} (hx : Ff ws i = some x) : Av.O7 h (id, off + i.toNat * 1) = some (f x) := by
 obtain ⟨h1, h2, h3⟩ := Qq hx
 refine a.O7 k hk ?_
 have := congrArg (·[i.toNat]?) hcs
 simp only [List.getElem?_take, h2, if_true, List.getElem?_drop, List.getElem?_map, h3, Option.map_some] at this
 rw [Nat.mul_one]; exact this
def Qp : List α → Int → α → List α
 | [], _, _ => []
 | w :: r, i, y => (bif i == 0 then y else w) :: Qp r (i - 1) y
theorem SK (y : α) : ∀ (ws : List α) (i : Int), 0 ≤ i → Qp ws i y = ws.set i.toNat y
 | [], i, _ => by simp [Qp]
 | w :: r, i, h => by
  rw [Qp]
  by_cases h0 : i = 0
  ·subst h0
   have e : ∀ (r : List α) (j : Int), j < 0 → Qp r j y = r := by
    intro r
    induction r with
    | nil => intro j _; rfl
    | cons w r ih =>
     intro j hj
     have : (j == 0) = false := by simp; omega
     rw [Qp, this, cond_false, ih (j - 1) (by omega)]
   rw [e r (0 - 1) (by omega)]; simp
  ·have e1 : (i == 0) = false := by simpa using h0
   obtain ⟨m, hm⟩ : ∃ m : Nat, i.toNat = m + 1 := ⟨i.toNat - 1, by omega⟩
   rw [e1, cond_false, SK y r (i - 1) (by omega), hm, show (i - 1).toNat = m by omega]
   simp
theorem Mr (pre mid post : List AB) (j : Nat) (v : AB) (hj : j < mid.length) : E0 (pre ++ (mid ++ post)) (pre.length + j) [v] = pre ++ (mid.set j v ++ post) := by
 unfold E0
 have e1 : (pre ++ (mid ++ post)).take (pre.length + j) = pre ++ mid.take j := by
  rw [List.take_append, List.take_of_length_le (by omega), show pre.length + j - pre.length = j by omega, List.take_append_of_le_length (by omega)]
 have e2 : (pre ++ (mid ++ post)).drop (pre.length + j + [v].length) = mid.drop (j + 1) ++ post := by
  rw [List.drop_append, List.drop_of_length_le (by simp; omega), List.nil_append, show pre.length + j + [v].length - pre.length = j + 1 by simp; omega, List.drop_append_of_le_length (by omega)]
 rw [e1, e2, List.set_eq_take_append_cons_drop, if_pos hj]
 simp
theorem HH.XF (a : HH g h L F) (k : Nat) {id : Nat} {gr : Option TypeId} {cs ds : List AB} (hk : L[k]? = some (.obj id (.cells gr 2 cs))) (off : Nat) (f : α → AB) (ws : List α) {i : Int} {x : α} (y : α) (hcs : (cs.drop off).take ws.length = ws.map f) (hx : Ff ws i = some x) (h1 : (f y).one = true)
  (hd : cs.take off ++ ((Qp ws i y).map f ++ cs.drop (off + ws.length)) = ds) : ∃ h', Av.st g h (id, off + i.toNat * 1) [f y] = some h' ∧ HH g h' (L.set k (.obj id (.cells gr 2 ds))) F := by
 obtain ⟨h2, h3, h4⟩ := Qq hx
 have hl : ws.length ≤ cs.length - off := by
  have := congrArg List.length hcs
  simp only [List.length_take, List.length_drop, List.length_map] at this
  omega
 refine a.st k hk (o := off + i.toNat * 1) (by simp; omega) (by simpa using h1) ?_
 subst hd
 rw [SK y ws i h2, Nat.mul_one]
 have e : cs = cs.take off ++ (ws.map f ++ cs.drop (off + ws.length)) := by
  conv => lhs; rw [← List.take_append_drop off cs, ← List.take_append_drop ws.length (cs.drop off), hcs, List.drop_drop]
 have ht : (cs.take off).length = off := by rw [List.length_take]; omega
 have := Mr (cs.take off) (ws.map f) (cs.drop (off + ws.length)) i.toNat (f y) (by simpa using h3)
 rw [← e, ht] at this
 rw [this, List.map_set]
end
end Go.Av
end
/-
  ABS, 33: channels of a run of one goroutine; a select with one case and a default; pointers to what is written no more.
-/
section
namespace Go.Av
set_option linter.unusedSimpArgs false
set_option linter.unusedVariables false
section
variable {g : Gd} {h : AH} {L F : List Ck}
theorem HH.Vz {id : Nat} {cs : List AB} (a : HH g h (.obj id (.cells none 2 cs) :: L) F) : ∃ h1, HH g h1 L F ∧ ∀ cs' h', H2 (G2 g) cs h1 = some (cs', h') → KL g h (.ptr (some (id, 0))) = some (.Aq cs', h') := by
 have hk : (Ck.obj id (.cells none 2 cs) :: L)[0]? = some (.obj id (.cells none 2 cs)) := rfl
 have hg := a.get 0 hk
 have hid := h.DG hg
 refine ⟨h.set id (.cells none 0 cs), ?_, fun cs' h' hx => ?_⟩
 ·have b := a.QV (d := .AO none 0 []) (h' := h.set id (.cells none 0 cs)) hk (by simp) (fun i _ hi => h.Ed _ hid (by simpa [Ck.ids] using hi)) rfl (fun i hi => by simp [Ck.ids] at hi) (fun i hi => by simp [Ck.ids] at hi)
  exact HH.tail (c := .AO none 0 []) b
 ·simp only [KL, hg, a.PS hk (i := id) (by simp [Ck.ids]), cond_true, hx, Option.map_some]
theorem JK (vs : List AB) : Pl g h (.tuple vs) = (H2 (KL g) vs h).map fun r => (.tuple r.1, r.2) := rfl
theorem Ja (id : Nat) : Pl g h (.ptr (some (id, 0))) = KL g h (.ptr (some (id, 0))) := rfl
theorem JP : KL g h (.ptr none) = some (.ptr none, h) := rfl
theorem JO (cs : List AB) : KL g h (.agg cs) = (H2 (G2 g) cs h).map fun r => (.agg r.1, r.2) := rfl
theorem Jd (r : Option Nat) (n : Nat) : KL g h (AG r n) = G2 g h (AG r n) := rfl
theorem JZ (n : Nat) (cs : List AB) : KL g h (.Hm n cs) = some (.Hm n cs, h) := rfl
theorem JG (cs : List AB) : KL g h (.Aq cs) = some (.Aq cs, h) := rfl
theorem JI (k : IntKind) (n : Int) : KL g h (.int k n) = some (.int k n, h) := rfl
theorem JW (b : Bool) : KL g h (.bool b) = some (.bool b, h) := rfl
theorem JN (s : List UInt8) : KL g h (.str s) = some (.str s, h) := rfl
theorem JQ : KL g h (.slice none 0) = some (.Hm 0 [], h) := rfl
theorem I8 (cs : List AB) : G2 g h (.Aq cs) = some (.Aq cs, h) := rfl
theorem I9 : G2 g h (.ptr none) = some (.ptr none, h) := rfl
end
end Go.Av
end
