/-
  Several texts in one.
-/
import Derived.Test.YthnnciphldbmeaaGreatDoorAvTy
/-
  AV: arrays of one's own, at places that are reckoned.
-/
section
namespace Go.Av
set_option linter.unusedVariables false
set_option linter.unusedSimpArgs false
section
variable {α : Type} {g : Gd} {h : AH} {L F : List Ck}
theorem T7 {ws : List α} {i : Int} {x : α} (hx : HR ws i = some x) : 0 ≤ i ∧ i.toNat < ws.length ∧ ws[i.toNat]? = some x := by
 unfold HR at hx
 split at hx
 ·exact ⟨by omega, (List.getElem?_eq_some_iff.1 hx).1, hx⟩
 ·cases hx
theorem Vm {ws : List α} {i : Int} {x : α} (hx : HR ws i = some x) (a : Nat × Nat) (z : Nat) {n : Nat} (hn : ws.length = n) : VN a n z i = some (a.1, a.2 + i.toNat * z) := by
 obtain ⟨h1, h2, _⟩ := T7 hx
 unfold VN
 rw [if_pos ⟨h1, by omega⟩]
theorem HH.Xy (a : HH g h L F) (k : Nat) {id : Nat} {gr : Option TypeId} {cs : List AA} (hk : L[k]? = some (.obj id (.cells gr 2 cs))) (off : Nat) (f : α → AA) (ws : List α) (hcs : (cs.drop off).take ws.length = ws.map f) {i : Int} {x : α} (hx : HR ws i = some x) : Av.NX h (id, off + i.toNat * 1) = some (f x) := by
 obtain ⟨h1, h2, h3⟩ := T7 hx
 refine a.NX k hk ?_
 have := congrArg (·[i.toNat]?) hcs
 simp only [List.getElem?_take, h2, if_true, List.getElem?_drop, List.getElem?_map, h3, Option.map_some] at this
 rw [Nat.mul_one]; exact this
theorem RS (pre mid post : List AA) (j : Nat) (v : AA) (hj : j < mid.length) : DY (pre ++ (mid ++ post)) (pre.length + j) [v] = pre ++ (mid.set j v ++ post) := by
 unfold DY
 have e1 : (pre ++ (mid ++ post)).take (pre.length + j) = pre ++ mid.take j := by
  rw [List.take_append, List.take_of_length_le (by omega), show pre.length + j - pre.length = j by omega, List.take_append_of_le_length (by omega)]
 have e2 : (pre ++ (mid ++ post)).drop (pre.length + j + [v].length) = mid.drop (j + 1) ++ post := by
  rw [List.drop_append, List.drop_of_length_le (by simp; omega), List.nil_append, show pre.length + j + [v].length - pre.length = j + 1 by simp; omega, List.drop_append_of_le_length (by omega)]
 rw [e1, e2, List.set_eq_take_append_cons_drop, if_pos hj]
 simp
end
end Go.Av
end
/-
  ABS, 33: channels of a run of one goroutine; a select with one case and a default; pointers to what is written no more.
-/
section
namespace Go.Av
set_option linter.unusedSimpArgs false
set_option linter.unusedVariables false
def eP {α : Type} (e : α → List AA) (x : α) : List AA := [.A7 (e x)]
theorem P8 {α : Type} (e : α → List AA) : LM (eP e) 1 := ⟨fun _ => rfl, fun _ => rfl, fun _ => rfl⟩
section
variable {g : Gd} {h : AH} {L F : List Ck}
theorem HH.Ws {id : Nat} {cs : List AA} (a : HH g h (.obj id (.cells none 2 cs) :: L) F) : ∃ h1, HH g h1 L F ∧ ∀ cs' h', IX (Fx g) cs h1 = some (cs', h') → Km g h (.ptr (some (id, 0))) = some (.A7 cs', h') := by
 have hk : (Ck.obj id (.cells none 2 cs) :: L)[0]? = some (.obj id (.cells none 2 cs)) := rfl
 have hg := a.get 0 hk
 have hid := h.CZ hg
 refine ⟨h.set id (.cells none 0 cs), ?_, fun cs' h' hx => ?_⟩
 ·have b := a.S0 (d := .AL none 0 []) (h' := h.set id (.cells none 0 cs)) hk (by simp) (fun i _ hi => h.DV _ hid (by simpa [Ck.ids] using hi)) rfl (fun i hi => by simp [Ck.ids] at hi) (fun i hi => by simp [Ck.ids] at hi)
  exact HH.tail (c := .AL none 0 []) b
 ·simp only [Km, hg, a.QG hk (i := id) (by simp [Ck.ids]), cond_true, hx, Option.map_some]
theorem Oh (vs : List AA) : Qz g h (.tuple vs) = (IX (Km g) vs h).map fun r => (.tuple r.1, r.2) := rfl
theorem On (id : Nat) : Qz g h (.ptr (some (id, 0))) = Km g h (.ptr (some (id, 0))) := rfl
theorem PA : Km g h (.ptr none) = some (.ptr none, h) := rfl
theorem Ot (cs : List AA) : Km g h (.agg cs) = (IX (Fx g) cs h).map fun r => (.agg r.1, r.2) := rfl
theorem O7 (r : Option Nat) (n : Nat) : Km g h (AI r n) = Fx g h (AI r n) := rfl
theorem O5 (n : Nat) (cs : List AA) : Km g h (.G7 n cs) = some (.G7 n cs, h) := rfl
theorem Oa (cs : List AA) : Km g h (.A7 cs) = some (.A7 cs, h) := rfl
theorem Od (k : IntKind) (n : Int) : Km g h (.int k n) = some (.int k n, h) := rfl
theorem Oz (b : Bool) : Km g h (.bool b) = some (.bool b, h) := rfl
theorem O9 (s : List UInt8) : Km g h (.str s) = some (.str s, h) := rfl
theorem OW : Km g h (.slice none 0) = some (.G7 0 [], h) := rfl
theorem Oi (cs : List AA) : Fx g h (.A7 cs) = some (.A7 cs, h) := rfl
theorem O8 : Fx g h (.ptr none) = some (.ptr none, h) := rfl
end
end Go.Av
end
/-
  AV: great arrays: functions of their places.
-/
section
namespace Go.Av
set_option linter.unusedVariables false
set_option linter.unusedSimpArgs false
section
variable {α : Type} {g : Gd} {h : AH} {L F : List Ck}
def Cl (n : Nat) (e : α → AA) (X : Nat → α) : List AA := (List.range n).map fun i => e (X i)
def Oe : Nat → Int := fun _ => 0
def Ov (X : Nat → α) (i : Nat) (y : α) : Nat → α := fun j => bif Nat.beq j i then y else X j
def Rk (n : Nat) (X : Nat → α) (i : Int) : Option α := if 0 ≤ i ∧ i.toNat < n then some (X i.toNat) else none
theorem Ku {n : Nat} {X : Nat → α} {i : Int} {x : α} (hx : Rk n X i = some x) : 0 ≤ i ∧ i.toNat < n ∧ X i.toNat = x := by
 unfold Rk at hx
 split at hx
 ·rename_i hc; exact ⟨hc.1, hc.2, Option.some.inj hx⟩
 ·cases hx
theorem Ik (n : Nat) (e : α → AA) (X : Nat → α) : (Cl n e X).length = n := by simp [Cl]
theorem S4 (X : Nat → α) (i : Nat) (y : α) : Ov X i y i = y := by
 unfold Ov
 rw [show Nat.beq i i = true from Nat.beq_refl i]; rfl
theorem Ux (X : Nat → α) {i j : Nat} (y : α) (h : j ≠ i) : Ov X i y j = X j := by
 unfold Ov
 cases hb : Nat.beq j i with
 | true => exact absurd (Nat.eq_of_beq_eq_true hb) h
 | false => rfl
theorem Uy (n : Nat) (e : α → AA) (X : Nat → α) (i : Nat) (y : α) : (Cl n e X).set i (e y) = Cl n e (Ov X i y) := by
 unfold Cl
 refine List.ext_getElem? fun j => ?_
 rw [List.getElem?_set]
 simp only [List.length_map, List.length_range, List.getElem?_map]
 by_cases hj : i = j
 ·subst hj
  by_cases hn : i < n
  ·simp [hn, S4]
  ·simp [hn]
 ·by_cases hn : j < n
  ·simp [hj, hn, Ux X y (Ne.symm hj)]
  ·simp [hj, hn]
theorem UB {n : Nat} (e : α → AA) {X : Nat → α} (r : List AA) {i : Int} {x : α} (hx : Rk n X i = some x) : ∃ tl, (Cl n e X ++ r).drop (i.toNat * 1) = [e x] ++ tl := by
 obtain ⟨h1, h2, h3⟩ := Ku hx
 rw [Nat.mul_one]
 have hl : i.toNat < (Cl n e X ++ r).length := by rw [List.length_append, Ik]; omega
 refine ⟨(Cl n e X ++ r).drop (i.toNat + 1), ?_⟩
 rw [List.drop_eq_getElem_cons hl, List.getElem_append_left (by rw [Ik]; exact h2)]
 simp [Cl, h3]
theorem MO {n : Nat} {X : Nat → α} {i : Int} {x : α} (hx : Rk n X i = some x) (a : Nat × Nat) (z : Nat) : VN a n z i = some (a.1, a.2 + i.toNat * z) := by
 obtain ⟨h1, h2, _⟩ := Ku hx
 unfold VN
 rw [if_pos ⟨h1, by omega⟩]
theorem HH.Xt (a : HH g h L F) (k : Nat) {id n : Nat} {gr : Option TypeId} (e : α → AA) {X : Nat → α} (pre post : List AA) {off : Nat} (hk : L[k]? = some (.obj id (.cells gr 2 (pre ++ (Cl n e X ++ post))))) (hp : pre.length = off) {i : Int} {x : α} (y : α) (hx : Rk n X i = some x) (h1 : (e y).one = true) :
  ∃ h', Av.st g h (id, off + i.toNat * 1) [e y] = some h' ∧ HH g h' (L.set k (.obj id (.cells gr 2 (pre ++ (Cl n e (Ov X i.toNat y) ++ post))))) F := by
 obtain ⟨h2, h3, h4⟩ := Ku hx
 refine a.st k hk (o := off + i.toNat * 1) (by simp [Ik]; omega) (by simpa using h1) ?_
 rw [← hp, Nat.mul_one, RS _ _ _ _ _ (by rw [Ik]; exact h3), Uy]
theorem HH.XR (a : HH g h L F) (k : Nat) {id n : Nat} {gr : Option TypeId} (e : α → AA) {X : Nat → α} (pre post : List AA) {off : Nat} (hk : L[k]? = some (.obj id (.cells gr 2 (pre ++ (Cl n e X ++ post))))) (hp : pre.length = off) {i : Int} {x : α} (hx : Rk n X i = some x) : Av.NX h (id, off + i.toNat * 1) = some (e x) := by
 obtain ⟨h2, h3, h4⟩ := Ku hx
 refine a.NX k hk ?_
 rw [Nat.mul_one, ← hp, List.getElem?_append_right (Nat.le_add_right _ _), Nat.add_sub_cancel_left, List.getElem?_append_left (by rw [Ik]; exact h3)]
 simp [Cl, h3, h4]
theorem Qp (k : IntKind) (X : Nat → Int) (n : Nat) (r : List AA) : IX (Fx g) (Cl n (AA.int k) X ++ r) h = (IX (Fx g) r h).map fun q => (Cl n (AA.int k) X ++ q.1, q.2) := by
 unfold Cl
 generalize List.range n = l
 induction l with
 | nil => simp
 | cons i l ih =>
  have e : IX (Fx g) ((AA.int k (X i) :: l.map fun i => AA.int k (X i)) ++ r) h = (IX (Fx g) ((l.map fun i => AA.int k (X i)) ++ r) h).map fun q : List AA × AH => (AA.int k (X i) :: q.1, q.2) := rfl
  rw [List.map_cons, e, ih, Option.map_map]
  rfl
theorem Q2 (v : AA) (r : List AA) : IX (Fx g) ([v] ++ r) h = IX (Fx g) (v :: r) h := rfl
end
section
variable {C : HU} {S : Self} {g : Gd} {h : AH} {fr : Fr} {op : Op}
def T9 (P : Program) (fr : Fr) : Op → Option (List AA × Nat × Nat × Int)
 | .indexAddr t x i =>
  match P.underlying t, ev fr x, ev fr i with
  | some (.array n e), .A7 cs, .int _ i => (Cv P e).map fun z => (cs, n, z, i)
  | _, _, _ => none
 | _ => none
theorem Vq {α : Type} {cs ds : List AA} {n z : Nat} {i : Int} {X : Nat → α} {x : α} (hs : T9 C.P fr op = some (cs, n, z, i)) (hx : Rk n X i = some x) (hd : cs.drop (i.toNat * z) = ds) : Bc C S g h fr op = some (.A7 ds, h) := by
 obtain ⟨h1, h2, _⟩ := Ku hx
 unfold T9 at hs
 split at hs
 ·split at hs
  ·rename_i hu hv hi
   simp only [Option.map_eq_some_iff, Prod.mk.injEq] at hs
   obtain ⟨m, h3, e1, e2, e3, e4⟩ := hs
   subst e1 e2 e3 e4
   simp [Bc, Ih, BE, Iv, GU, hu, hv, hi, h3, hd]
   first | done | (refine ⟨?_, ?_⟩ <;> omega) | omega
  ·cases hs
 ·cases hs
end
end Go.Av
end
