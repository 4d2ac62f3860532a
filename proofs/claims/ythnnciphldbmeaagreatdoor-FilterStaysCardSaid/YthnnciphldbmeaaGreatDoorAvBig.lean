/-
  Several texts in one.
-/
import Derived.Test.YthnnciphldbmeaaGreatDoorAvTy
/-
  AV: arrays of one's own, at places that are reckoned.
-/
section
namespace Go.Av
set_option linter.unusedVariables false
set_option linter.unusedSimpArgs false
section
variable {α : Type} {g : Gd} {h : AM} {L F : List Ck}
theorem Ul {ws : List α} {i : Int} {x : α} (hx : GP ws i = some x) : 0 ≤ i ∧ i.toNat < ws.length ∧ ws[i.toNat]? = some x := by
 unfold GP at hx
 split at hx
 ·exact ⟨by omega, (List.getElem?_eq_some_iff.1 hx).1, hx⟩
 ·cases hx
theorem Wv {ws : List α} {i : Int} {x : α} (hx : GP ws i = some x) (a : Nat × Nat) (z : Nat) {n : Nat} (hn : ws.length = n) : Va a n z i = some (a.1, a.2 + i.toNat * z) := by
 obtain ⟨h1, h2, _⟩ := Ul hx
 unfold Va
 rw [if_pos ⟨h1, by omega⟩]
theorem HH.Yn (a : HH g h L F) (k : Nat) {id : Nat} {gr : Option TypeId} {cs : List AD} (hk : L[k]? = some (.obj id (.cells gr 2 cs))) (off : Nat) (f : α → AD) (ws : List α) (hcs : (cs.drop off).take ws.length = ws.map f) {i : Int} {x : α} (hx : GP ws i = some x) : Av.N6 h (id, off + i.toNat * 1) = some (f x) := by
 obtain ⟨h1, h2, h3⟩ := Ul hx
 refine a.N6 k hk ?_
 have := congrArg (·[i.toNat]?) hcs
 simp only [List.getElem?_take, h2, if_true, List.getElem?_drop, List.getElem?_map, h3, Option.map_some] at this
 rw [Nat.mul_one]; exact this
theorem RQ (pre mid post : List AD) (j : Nat) (v : AD) (hj : j < mid.length) : Du (pre ++ (mid ++ post)) (pre.length + j) [v] = pre ++ (mid.set j v ++ post) := by
 unfold Du
 have e1 : (pre ++ (mid ++ post)).take (pre.length + j) = pre ++ mid.take j := by
  rw [List.take_append, List.take_of_length_le (by omega), show pre.length + j - pre.length = j by omega, List.take_append_of_le_length (by omega)]
 have e2 : (pre ++ (mid ++ post)).drop (pre.length + j + [v].length) = mid.drop (j + 1) ++ post := by
  rw [List.drop_append, List.drop_of_length_le (by simp; omega), List.nil_append, show pre.length + j + [v].length - pre.length = j + 1 by simp; omega, List.drop_append_of_le_length (by omega)]
 rw [e1, e2, List.set_eq_take_append_cons_drop, if_pos hj]
 simp
end
end Go.Av
end
/-
  ABS, 33: channels of a run of one goroutine; a select with one case and a default; pointers to what is written no more.
-/
section
namespace Go.Av
set_option linter.unusedSimpArgs false
set_option linter.unusedVariables false
def eP {α : Type} (e : α → List AD) (x : α) : List AD := [.BC (e x)]
theorem Qb {α : Type} (e : α → List AD) : Lg (eP e) 1 := ⟨fun _ => rfl, fun _ => rfl, fun _ => rfl⟩
section
variable {g : Gd} {h : AM} {L F : List Ck}
theorem HH.Xw {id : Nat} {cs : List AD} (a : HH g h (.obj id (.cells none 2 cs) :: L) F) : ∃ h1, HH g h1 L F ∧ ∀ cs' h', Ix (F4 g) cs h1 = some (cs', h') → K9 g h (.ptr (some (id, 0))) = some (.BC cs', h') := by
 have hk : (Ck.obj id (.cells none 2 cs) :: L)[0]? = some (.obj id (.cells none 2 cs)) := rfl
 have hg := a.get 0 hk
 have hid := h.Cd hg
 refine ⟨h.set id (.cells none 0 cs), ?_, fun cs' h' hx => ?_⟩
 ·have b := a.Tz (d := .AL none 0 []) (h' := h.set id (.cells none 0 cs)) hk (by simp) (fun i _ hi => h.Dh _ hid (by simpa [Ck.ids] using hi)) rfl (fun i hi => by simp [Ck.ids] at hi) (fun i hi => by simp [Ck.ids] at hi)
  exact HH.tail (c := .AL none 0 []) b
 ·simp only [K9, hg, a.Q6 hk (i := id) (by simp [Ck.ids]), cond_true, hx, Option.map_some]
theorem PG (vs : List AD) : Rc g h (.tuple vs) = (Ix (K9 g) vs h).map fun r => (.tuple r.1, r.2) := rfl
theorem PZ (id : Nat) : Rc g h (.ptr (some (id, 0))) = K9 g h (.ptr (some (id, 0))) := rfl
theorem Po : K9 g h (.ptr none) = some (.ptr none, h) := rfl
theorem PW (cs : List AD) : K9 g h (.agg cs) = (Ix (F4 g) cs h).map fun r => (.agg r.1, r.2) := rfl
theorem Pd (r : Option Nat) (n : Nat) : K9 g h (AF r n) = F4 g h (AF r n) := rfl
theorem PI (n : Nat) (cs : List AD) : K9 g h (.HN n cs) = some (.HN n cs, h) := rfl
theorem PE (cs : List AD) : K9 g h (.BC cs) = some (.BC cs, h) := rfl
theorem PK (k : IntKind) (n : Int) : K9 g h (.int k n) = some (.int k n, h) := rfl
theorem PJ (b : Bool) : K9 g h (.bool b) = some (.bool b, h) := rfl
theorem PV (s : List UInt8) : K9 g h (.str s) = some (.str s, h) := rfl
theorem Pa : K9 g h (.slice none 0) = some (.HN 0 [], h) := rfl
theorem Pj (cs : List AD) : F4 g h (.BC cs) = some (.BC cs, h) := rfl
theorem PM : F4 g h (.ptr none) = some (.ptr none, h) := rfl
end
end Go.Av
end
/-
  AV: great arrays: functions of their places.
-/
section
namespace Go.Av
set_option linter.unusedVariables false
set_option linter.unusedSimpArgs false
section
variable {α : Type} {g : Gd} {h : AM} {L F : List Ck}
def CW (n : Nat) (e : α → AD) (X : Nat → α) : List AD := (List.range n).map fun i => e (X i)
def J6 : Nat → Int := fun _ => 0
def PX (X : Nat → α) (i : Nat) (y : α) : Nat → α := fun j => bif Nat.beq j i then y else X j
def Sv (n : Nat) (X : Nat → α) (i : Int) : Option α := if 0 ≤ i ∧ i.toNat < n then some (X i.toNat) else none
theorem Ky {n : Nat} {X : Nat → α} {i : Int} {x : α} (hx : Sv n X i = some x) : 0 ≤ i ∧ i.toNat < n ∧ X i.toNat = x := by
 unfold Sv at hx
 split at hx
 ·rename_i hc; exact ⟨hc.1, hc.2, Option.some.inj hx⟩
 ·cases hx
theorem Ib (n : Nat) (e : α → AD) (X : Nat → α) : (CW n e X).length = n := by simp [CW]
theorem Tl (X : Nat → α) (i : Nat) (y : α) : PX X i y i = y := by
 unfold PX
 rw [show Nat.beq i i = true from Nat.beq_refl i]; rfl
theorem Vs (X : Nat → α) {i j : Nat} (y : α) (h : j ≠ i) : PX X i y j = X j := by
 unfold PX
 cases hb : Nat.beq j i with
 | true => exact absurd (Nat.eq_of_beq_eq_true hb) h
 | false => rfl
theorem Vr (n : Nat) (e : α → AD) (X : Nat → α) (i : Nat) (y : α) : (CW n e X).set i (e y) = CW n e (PX X i y) := by
 unfold CW
 refine List.ext_getElem? fun j => ?_
 rw [List.getElem?_set]
 simp only [List.length_map, List.length_range, List.getElem?_map]
 by_cases hj : i = j
 ·subst hj
  by_cases hn : i < n
  ·simp [hn, Tl]
  ·simp [hn]
 ·by_cases hn : j < n
  ·simp [hj, hn, Vs X y (Ne.symm hj)]
  ·simp [hj, hn]
theorem U3 {n : Nat} (e : α → AD) {X : Nat → α} (r : List AD) {i : Int} {x : α} (hx : Sv n X i = some x) : ∃ tl, (CW n e X ++ r).drop (i.toNat * 1) = [e x] ++ tl := by
 obtain ⟨h1, h2, h3⟩ := Ky hx
 rw [Nat.mul_one]
 have hl : i.toNat < (CW n e X ++ r).length := by rw [List.length_append, Ib]; omega
 refine ⟨(CW n e X ++ r).drop (i.toNat + 1), ?_⟩
 rw [List.drop_eq_getElem_cons hl, List.getElem_append_left (by rw [Ib]; exact h2)]
 simp [CW, h3]
theorem Mm {n : Nat} {X : Nat → α} {i : Int} {x : α} (hx : Sv n X i = some x) (a : Nat × Nat) (z : Nat) : Va a n z i = some (a.1, a.2 + i.toNat * z) := by
 obtain ⟨h1, h2, _⟩ := Ky hx
 unfold Va
 rw [if_pos ⟨h1, by omega⟩]
theorem HH.Ye (a : HH g h L F) (k : Nat) {id n : Nat} {gr : Option TypeId} (e : α → AD) {X : Nat → α} (pre post : List AD) {off : Nat} (hk : L[k]? = some (.obj id (.cells gr 2 (pre ++ (CW n e X ++ post))))) (hp : pre.length = off) {i : Int} {x : α} (y : α) (hx : Sv n X i = some x) (h1 : (e y).one = true) :
  ∃ h', Av.st g h (id, off + i.toNat * 1) [e y] = some h' ∧ HH g h' (L.set k (.obj id (.cells gr 2 (pre ++ (CW n e (PX X i.toNat y) ++ post))))) F := by
 obtain ⟨h2, h3, h4⟩ := Ky hx
 refine a.st k hk (o := off + i.toNat * 1) (by simp [Ib]; omega) (by simpa using h1) ?_
 rw [← hp, Nat.mul_one, RQ _ _ _ _ _ (by rw [Ib]; exact h3), Vr]
theorem HH.YH (a : HH g h L F) (k : Nat) {id n : Nat} {gr : Option TypeId} (e : α → AD) {X : Nat → α} (pre post : List AD) {off : Nat} (hk : L[k]? = some (.obj id (.cells gr 2 (pre ++ (CW n e X ++ post))))) (hp : pre.length = off) {i : Int} {x : α} (hx : Sv n X i = some x) : Av.N6 h (id, off + i.toNat * 1) = some (e x) := by
 obtain ⟨h2, h3, h4⟩ := Ky hx
 refine a.N6 k hk ?_
 rw [Nat.mul_one, ← hp, List.getElem?_append_right (Nat.le_add_right _ _), Nat.add_sub_cancel_left, List.getElem?_append_left (by rw [Ib]; exact h3)]
 simp [CW, h3, h4]
theorem SD (k : IntKind) (X : Nat → Int) (n : Nat) (r : List AD) : Ix (F4 g) (CW n (AD.int k) X ++ r) h = (Ix (F4 g) r h).map fun q => (CW n (AD.int k) X ++ q.1, q.2) := by
 unfold CW
 generalize List.range n = l
 induction l with
 | nil => simp
 | cons i l ih =>
  have e : Ix (F4 g) ((AD.int k (X i) :: l.map fun i => AD.int k (X i)) ++ r) h = (Ix (F4 g) ((l.map fun i => AD.int k (X i)) ++ r) h).map fun q : List AD × AM => (AD.int k (X i) :: q.1, q.2) := rfl
  rw [List.map_cons, e, ih, Option.map_map]
  rfl
theorem Rl (v : AD) (r : List AD) : Ix (F4 g) ([v] ++ r) h = Ix (F4 g) (v :: r) h := rfl
end
section
variable {C : Hj} {S : Self} {g : Gd} {h : AM} {fr : Fr} {op : Op}
def Uc (P : Program) (fr : Fr) : Op → Option (List AD × Nat × Nat × Int)
 | .indexAddr t x i =>
  match P.underlying t, ev fr x, ev fr i with
  | some (.array n e), .BC cs, .int _ i => (C5 P e).map fun z => (cs, n, z, i)
  | _, _, _ => none
 | _ => none
theorem W6 {α : Type} {cs ds : List AD} {n z : Nat} {i : Int} {X : Nat → α} {x : α} (hs : Uc C.P fr op = some (cs, n, z, i)) (hx : Sv n X i = some x) (hd : cs.drop (i.toNat * z) = ds) : Bl C S g h fr op = some (.BC ds, h) := by
 obtain ⟨h1, h2, _⟩ := Ky hx
 unfold Uc at hs
 split at hs
 ·split at hs
  ·rename_i hu hv hi
   simp only [Option.map_eq_some_iff, Prod.mk.injEq] at hs
   obtain ⟨m, h3, e1, e2, e3, e4⟩ := hs
   subst e1 e2 e3 e4
   simp [Bl, Il, BI, I4, Gk, hu, hv, hi, h3, hd]
   first | done | (refine ⟨?_, ?_⟩ <;> omega) | omega
  ·cases hs
 ·cases hs
end
end Go.Av
end
