/-
  Several texts in one.
-/
import Derived.Test.YtdjbadhilkmiiaaGreatDoorAvTy
/-
 A part.
-/
section
namespace Go.Av
set_option linter.unusedVariables false
set_option linter.unusedSimpArgs false
section
variable {α : Type} {g : Gd} {h : AJ} {L F : List Ck}
theorem R7 {ws : List α} {i : Int} {x : α} (hx : HO ws i = some x) : 0 ≤ i ∧ i.toNat < ws.length ∧ ws[i.toNat]? = some x := by
 unfold HO at hx
 split at hx
 ·exact ⟨by omega, (List.getElem?_eq_some_iff.1 hx).1, hx⟩
 ·cases hx
theorem It {ws : List α} {i : Int} {x : α} (hx : HO ws i = some x) (a : Nat × Nat) (z : Nat) {n : Nat} (hn : ws.length = n) : Ul a n z i = some (a.1, a.2 + i.toNat * z) := by
 obtain ⟨h1, h2, _⟩ := R7 hx
 unfold Ul
 rw [if_pos ⟨h1, by omega⟩]
theorem HH.Vh (a : HH g h L F) (k : Nat) {id : Nat} {gr : Option TypeId} {cs : List AB} (hk : L[k]? = some (.obj id (.cells gr 2 cs))) (off : Nat) (f : α → AB) (ws : List α) (hcs : (cs.drop off).take ws.length = ws.map f) {i : Int} {x : α} (hx : HO ws i = some x) : Av.Ni h (id, off + i.toNat * 1) = some (f x) := by
 obtain ⟨h1, h2, h3⟩ := R7 hx
 refine a.Ni k hk ?_
 have := congrArg (·[i.toNat]?) hcs
 simp only [List.getElem?_take, h2, if_true, List.getElem?_drop, List.getElem?_map, h3, Option.map_some] at this
 rw [Nat.mul_one]; exact this
def Ri : List α → Int → α → List α
 | [], _, _ => []
 | w :: r, i, y => (bif i == 0 then y else w) :: Ri r (i - 1) y
theorem Sa (y : α) : ∀ (ws : List α) (i : Int), 0 ≤ i → Ri ws i y = ws.set i.toNat y
 | [], i, _ => by simp [Ri]
 | w :: r, i, h => by
  rw [Ri]
  by_cases h0 : i = 0
  ·subst h0
   have e : ∀ (r : List α) (j : Int), j < 0 → Ri r j y = r := by
    intro r
    induction r with
    | nil => intro j _; rfl
    | cons w r ih =>
     intro j hj
     have : (j == 0) = false := by simp; omega
     rw [Ri, this, cond_false, ih (j - 1) (by omega)]
   rw [e r (0 - 1) (by omega)]; simp
  ·have e1 : (i == 0) = false := by simpa using h0
   obtain ⟨m, hm⟩ : ∃ m : Nat, i.toNat = m + 1 := ⟨i.toNat - 1, by omega⟩
   rw [e1, cond_false, Sa y r (i - 1) (by omega), hm, show (i - 1).toNat = m by omega]
   simp
theorem NM (pre mid post : List AB) (j : Nat) (v : AB) (hj : j < mid.length) : Dv (pre ++ (mid ++ post)) (pre.length + j) [v] = pre ++ (mid.set j v ++ post) := by
 unfold Dv
 have e1 : (pre ++ (mid ++ post)).take (pre.length + j) = pre ++ mid.take j := by
  rw [List.take_append, List.take_of_length_le (by omega), show pre.length + j - pre.length = j by omega, List.take_append_of_le_length (by omega)]
 have e2 : (pre ++ (mid ++ post)).drop (pre.length + j + [v].length) = mid.drop (j + 1) ++ post := by
  rw [List.drop_append, List.drop_of_length_le (by simp; omega), List.nil_append, show pre.length + j + [v].length - pre.length = j + 1 by simp; omega, List.drop_append_of_le_length (by omega)]
 rw [e1, e2, List.set_eq_take_append_cons_drop, if_pos hj]
 simp
theorem HH.XM (a : HH g h L F) (k : Nat) {id : Nat} {gr : Option TypeId} {cs ds : List AB} (hk : L[k]? = some (.obj id (.cells gr 2 cs))) (off : Nat) (f : α → AB) (ws : List α) {i : Int} {x : α} (y : α) (hcs : (cs.drop off).take ws.length = ws.map f) (hx : HO ws i = some x) (h1 : (f y).one = true)
  (hd : cs.take off ++ ((Ri ws i y).map f ++ cs.drop (off + ws.length)) = ds) : ∃ h', Av.st g h (id, off + i.toNat * 1) [f y] = some h' ∧ HH g h' (L.set k (.obj id (.cells gr 2 ds))) F := by
 obtain ⟨h2, h3, h4⟩ := R7 hx
 have hl : ws.length ≤ cs.length - off := by
  have := congrArg List.length hcs
  simp only [List.length_take, List.length_drop, List.length_map] at this
  omega
 refine a.st k hk (o := off + i.toNat * 1) (by simp; omega) (by simpa using h1) ?_
 subst hd
 rw [Sa y ws i h2, Nat.mul_one]
 have e : cs = cs.take off ++ (ws.map f ++ cs.drop (off + ws.length)) := by
  conv => lhs; rw [← List.take_append_drop off cs, ← List.take_append_drop ws.length (cs.drop off), hcs, List.drop_drop]
 have ht : (cs.take off).length = off := by rw [List.length_take]; omega
 have := NM (cs.take off) (ws.map f) (cs.drop (off + ws.length)) i.toNat (f y) (by simpa using h3)
 rw [← e, ht] at this
 rw [this, List.map_set]
end
end Go.Av
end
/-
 A part.
-/
section
namespace Go.Av
set_option linter.unusedSimpArgs false
set_option linter.unusedVariables false
def eP {α : Type} (e : α → List AB) (x : α) : List AB := [.BR (e x)]
theorem Sx {α : Type} (e : α → List AB) : Ld (eP e) 1 := ⟨fun _ => rfl, fun _ => rfl, fun _ => rfl⟩
section
variable {g : Gd} {h : AJ} {L F : List Ck}
theorem HH.Wl {id : Nat} {cs : List AB} (a : HH g h (.obj id (.cells none 2 cs) :: L) F) : ∃ h1, HH g h1 L F ∧ ∀ cs' h', Ih (Fl g) cs h1 = some (cs', h') → KU g h (.ptr (some (id, 0))) = some (.BR cs', h') := by
 have hk : (Ck.obj id (.cells none 2 cs) :: L)[0]? = some (.obj id (.cells none 2 cs)) := rfl
 have hg := a.get 0 hk
 have hid := h.Ct hg
 refine ⟨h.set id (.cells none 0 cs), ?_, fun cs' h' hx => ?_⟩
 ·have b := a.S4 (d := .AK none 0 []) (h' := h.set id (.cells none 0 cs)) hk (by simp) (fun i _ hi => h.Dj _ hid (by simpa [Ck.ids] using hi)) rfl (fun i hi => by simp [Ck.ids] at hi) (fun i hi => by simp [Ck.ids] at hi)
  exact HH.tail (c := .AK none 0 []) b
 ·simp only [KU, hg, a.P0 hk (i := id) (by simp [Ck.ids]), cond_true, hx, Option.map_some]
theorem Oe (vs : List AB) : Qy g h (.tuple vs) = (Ih (KU g) vs h).map fun r => (.tuple r.1, r.2) := rfl
theorem O5 (id : Nat) : Qy g h (.ptr (some (id, 0))) = KU g h (.ptr (some (id, 0))) := rfl
theorem Oz : KU g h (.ptr none) = some (.ptr none, h) := rfl
theorem Oo (cs : List AB) : KU g h (.agg cs) = (Ih (Fl g) cs h).map fun r => (.agg r.1, r.2) := rfl
theorem O4 (r : Option Nat) (n : Nat) : KU g h (AH r n) = Fl g h (AH r n) := rfl
theorem Ox (n : Nat) (cs : List AB) : KU g h (.HE n cs) = some (.HE n cs, h) := rfl
theorem O0 (cs : List AB) : KU g h (.BR cs) = some (.BR cs, h) := rfl
theorem Of (k : IntKind) (n : Int) : KU g h (.int k n) = some (.int k n, h) := rfl
theorem On (b : Bool) : KU g h (.bool b) = some (.bool b, h) := rfl
theorem Ov (s : List UInt8) : KU g h (.str s) = some (.str s, h) := rfl
theorem Ol : KU g h (.slice none 0) = some (.HE 0 [], h) := rfl
theorem Oq (cs : List AB) : Fl g h (.BR cs) = some (.BR cs, h) := rfl
theorem Ob : Fl g h (.ptr none) = some (.ptr none, h) := rfl
end
end Go.Av
end
/-
 A part.
-/
section
namespace Go.Av
set_option linter.unusedVariables false
set_option linter.unusedSimpArgs false
section
variable {α : Type} {g : Gd} {h : AJ} {L F : List Ck}
def DC (n : Nat) (e : α → AB) (X : Nat → α) : List AB := (List.range n).map fun i => e (X i)
def Pr : Nat → Int := fun _ => 0
def O8 (X : Nat → α) (i : Nat) (y : α) : Nat → α := fun j => bif Nat.beq j i then y else X j
def Ss (n : Nat) (X : Nat → α) (i : Int) : Option α := if 0 ≤ i ∧ i.toNat < n then some (X i.toNat) else none
theorem Ku {n : Nat} {X : Nat → α} {i : Int} {x : α} (hx : Ss n X i = some x) : 0 ≤ i ∧ i.toNat < n ∧ X i.toNat = x := by
 unfold Ss at hx
 split at hx
 ·rename_i hc; exact ⟨hc.1, hc.2, Option.some.inj hx⟩
 ·cases hx
theorem IM (n : Nat) (e : α → AB) (X : Nat → α) : (DC n e X).length = n := by simp [DC]
theorem S7 (X : Nat → α) (i : Nat) (y : α) : O8 X i y i = y := by
 unfold O8
 rw [show Nat.beq i i = true from Nat.beq_refl i]; rfl
theorem VL (X : Nat → α) {i j : Nat} (y : α) (h : j ≠ i) : O8 X i y j = X j := by
 unfold O8
 cases hb : Nat.beq j i with
 | true => exact absurd (Nat.eq_of_beq_eq_true hb) h
 | false => rfl
theorem VH (n : Nat) (e : α → AB) (X : Nat → α) (i : Nat) (y : α) : (DC n e X).set i (e y) = DC n e (O8 X i y) := by
 unfold DC
 refine List.ext_getElem? fun j => ?_
 rw [List.getElem?_set]
 simp only [List.length_map, List.length_range, List.getElem?_map]
 by_cases hj : i = j
 ·subst hj
  by_cases hn : i < n
  ·simp [hn, S7]
  ·simp [hn]
 ·by_cases hn : j < n
  ·simp [hj, hn, VL X y (Ne.symm hj)]
  ·simp [hj, hn]
theorem UO {n : Nat} (e : α → AB) {X : Nat → α} (r : List AB) {i : Int} {x : α} (hx : Ss n X i = some x) : ∃ tl, (DC n e X ++ r).drop (i.toNat * 1) = [e x] ++ tl := by
 obtain ⟨h1, h2, h3⟩ := Ku hx
 rw [Nat.mul_one]
 have hl : i.toNat < (DC n e X ++ r).length := by rw [List.length_append, IM]; omega
 refine ⟨(DC n e X ++ r).drop (i.toNat + 1), ?_⟩
 rw [List.drop_eq_getElem_cons hl, List.getElem_append_left (by rw [IM]; exact h2)]
 simp [DC, h3]
theorem MF {n : Nat} {X : Nat → α} {i : Int} {x : α} (hx : Ss n X i = some x) (a : Nat × Nat) (z : Nat) : Ul a n z i = some (a.1, a.2 + i.toNat * z) := by
 obtain ⟨h1, h2, _⟩ := Ku hx
 unfold Ul
 rw [if_pos ⟨h1, by omega⟩]
theorem HH.Xw (a : HH g h L F) (k : Nat) {id n : Nat} {gr : Option TypeId} (e : α → AB) {X : Nat → α} (pre post : List AB) {off : Nat} (hk : L[k]? = some (.obj id (.cells gr 2 (pre ++ (DC n e X ++ post))))) (hp : pre.length = off) {i : Int} {x : α} (y : α) (hx : Ss n X i = some x) (h1 : (e y).one = true) :
  ∃ h', Av.st g h (id, off + i.toNat * 1) [e y] = some h' ∧ HH g h' (L.set k (.obj id (.cells gr 2 (pre ++ (DC n e (O8 X i.toNat y) ++ post))))) F := by
 obtain ⟨h2, h3, h4⟩ := Ku hx
 refine a.st k hk (o := off + i.toNat * 1) (by simp [IM]; omega) (by simpa using h1) ?_
 rw [← hp, Nat.mul_one, NM _ _ _ _ _ (by rw [IM]; exact h3), VH]
theorem HH.Xe (a : HH g h L F) (k : Nat) {id n : Nat} {gr : Option TypeId} (e : α → AB) {X : Nat → α} (pre post : List AB) {off : Nat} (hk : L[k]? = some (.obj id (.cells gr 2 (pre ++ (DC n e X ++ post))))) (hp : pre.length = off) {i : Int} {x : α} (hx : Ss n X i = some x) : Av.Ni h (id, off + i.toNat * 1) = some (e x) := by
 obtain ⟨h2, h3, h4⟩ := Ku hx
 refine a.Ni k hk ?_
 rw [Nat.mul_one, ← hp, List.getElem?_append_right (Nat.le_add_right _ _), Nat.add_sub_cancel_left, List.getElem?_append_left (by rw [IM]; exact h3)]
 simp [DC, h3, h4]
theorem Qx (k : IntKind) (X : Nat → Int) (n : Nat) (r : List AB) : Ih (Fl g) (DC n (AB.int k) X ++ r) h = (Ih (Fl g) r h).map fun q => (DC n (AB.int k) X ++ q.1, q.2) := by
 unfold DC
 generalize List.range n = l
 induction l with
 | nil => simp
 | cons i l ih =>
  have e : Ih (Fl g) ((AB.int k (X i) :: l.map fun i => AB.int k (X i)) ++ r) h = (Ih (Fl g) ((l.map fun i => AB.int k (X i)) ++ r) h).map fun q : List AB × AJ => (AB.int k (X i) :: q.1, q.2) := rfl
  rw [List.map_cons, e, ih, Option.map_map]
  rfl
theorem RJ (v : AB) (r : List AB) : Ih (Fl g) ([v] ++ r) h = Ih (Fl g) (v :: r) h := rfl
end
section
variable {C : HS} {S : Self} {g : Gd} {h : AJ} {fr : Fr} {op : Op}
def Tx (P : Program) (fr : Fr) : Op → Option (List AB × Nat × Nat × Int)
 | .indexAddr t x i =>
  match P.underlying t, ev fr x, ev fr i with
  | some (.array n e), .BR cs, .int _ i => (DD P e).map fun z => (cs, n, z, i)
  | _, _, _ => none
 | _ => none
theorem WJ {α : Type} {cs ds : List AB} {n z : Nat} {i : Int} {X : Nat → α} {x : α} (hs : Tx C.P fr op = some (cs, n, z, i)) (hx : Ss n X i = some x) (hd : cs.drop (i.toNat * z) = ds) : Bs C S g h fr op = some (.BR ds, h) := by
 obtain ⟨h1, h2, _⟩ := Ku hx
 unfold Tx at hs
 split at hs
 ·split at hs
  ·rename_i hu hv hi
   simp only [Option.map_eq_some_iff, Prod.mk.injEq] at hs
   obtain ⟨m, h3, e1, e2, e3, e4⟩ := hs
   subst e1 e2 e3 e4
   simp [Bs, Iw, BX, Iz, GX, hu, hv, hi, h3, hd]
   first | done | (refine ⟨?_, ?_⟩ <;> omega) | omega
  ·cases hs
 ·cases hs
end
end Go.Av
end
