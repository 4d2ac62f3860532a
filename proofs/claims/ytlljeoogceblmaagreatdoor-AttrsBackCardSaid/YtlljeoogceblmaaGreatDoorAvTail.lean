/-
  Several texts in one.
-/
import Derived.Test.YtlljeoogceblmaaGreatDoorAvTy
/-
 A part.
-/
section
namespace Go.Av
set_option linter.unusedVariables false
set_option linter.unusedSimpArgs false
section
variable {α : Type} {g : Gd} {h : AD} {L F : List Ck}
theorem VU {ws : List α} {i : Int} {x : α} (hx : IG ws i = some x) : 0 ≤ i ∧ i.toNat < ws.length ∧ ws[i.toNat]? = some x := by
 unfold IG at hx
 split at hx
 ·exact ⟨by omega, (List.getElem?_eq_some_iff.1 hx).1, hx⟩
 ·cases hx
end
section
variable {C : FY} {S : Self} {g : Gd} {h : AD} {fr : Fr} {op : Op}
def VA (P : Program) (fr : Fr) : Op → Option (List AA × Nat × Int)
 | .index t x i =>
  match P.underlying t, ev fr x, ev fr i with
  | some (.array n e), .agg cs, .int _ i =>
   match Hw P e, Bq P e with
   | some false, some 1 => some (cs, n, i)
   | _, _ => none
  | _, _, _ => none
 | _ => none
theorem Sx {α : Type} (f : α → AA) (ws : List α) {cs : List AA} {n : Nat} {i : Int} {x : α} (hs : VA C.P fr op = some (cs, n, i)) (hcs : cs = ws.map f) (hn : ws.length = n) (hx : IG ws i = some x) : A0 C S g h fr op = some (f x, h) := by
 obtain ⟨h1, h2, h3⟩ := VU hx
 unfold VA at hs
 split at hs
 ·split at hs
  ·rename_i hu hv hi
   split at hs
   ·rename_i ha hz
    simp only [Option.some.injEq, Prod.mk.injEq] at hs
    have e : ∀ j : Nat, ws[j]? = some x → (ws.map f)[j]? = some (f x) := fun j hj => by rw [List.getElem?_map, hj]; rfl
    obtain ⟨e1, e2, e3⟩ := hs
    subst e1 e2 e3
    simp only [A0, G3, As, Ha, L3, hu, hv, hi, hz, Option.bind_some, Nat.mul_one]
    rw [if_pos ⟨h1, by omega⟩]
    simp only [Dp, ha, hcs, e _ h3, Option.map_some]
   ·cases hs
  ·cases hs
 ·cases hs
def Th (P : Program) (fr : Fr) : Op → Option (List AA × Nat × Nat × Int)
 | .index t x i =>
  match P.underlying t, ev fr x, ev fr i with
  | some (.array n e), .agg cs, .int _ i =>
   match Hw P e, Bq P e with
   | some true, some z => some (cs, n, z, i)
   | _, _ => none
  | _, _, _ => none
 | _ => none
theorem Rj {α : Type} {e : α → List AA} {z : Nat} (E : LB e z) : ∀ (ws : List α) (j : Nat) (x : α), ws[j]? = some x → j * z + z ≤ (Ak e ws).length ∧ ((Ak e ws).drop (j * z)).take z = e x
 | [], j, x, h => by simp at h
 | w :: r, 0, x, h => by
  have hw : w = x := by simpa using h
  subst hw
  have hl := E.len w
  have e1 : Ak e (w :: r) = e w ++ Ak e r := rfl
  refine ⟨by rw [e1, List.length_append]; omega, ?_⟩
  rw [e1, Nat.zero_mul, List.drop_zero, List.take_append_of_le_length (by omega), List.take_of_length_le (by omega)]
 | w :: r, j + 1, x, h => by
  obtain ⟨h1, h2⟩ := Rj E r j x (by simpa using h)
  have hl := E.len w
  have e1 : Ak e (w :: r) = e w ++ Ak e r := rfl
  have e2 : (j + 1) * z = z + j * z := by rw [Nat.add_mul, Nat.one_mul, Nat.add_comm]
  refine ⟨by rw [e1, List.length_append, e2]; omega, ?_⟩
  rw [e1, e2, List.drop_append, List.drop_of_length_le (by omega), List.nil_append, hl, Nat.add_sub_cancel_left]
  exact h2
theorem KO {α : Type} {e : α → List AA} {z : Nat} (E : LB e z) (ws : List α) {cs : List AA} {n : Nat} {i : Int} {x : α} (hs : Th C.P fr op = some (cs, n, z, i)) (hcs : cs = Ak e ws) (hn : ws.length = n) (hx : IG ws i = some x) : A0 C S g h fr op = some (.agg (e x), h) := by
 obtain ⟨h1, h2, h3⟩ := VU hx
 obtain ⟨h4, h5⟩ := Rj E ws _ _ h3
 unfold Th at hs
 split at hs
 ·split at hs
  ·rename_i hu hv hi
   split at hs
   ·rename_i ha hz
    simp only [Option.some.injEq, Prod.mk.injEq] at hs
    obtain ⟨e1, e2, e3, e4⟩ := hs
    subst e1 e2 e3 e4
    simp only [A0, G3, As, Ha, L3, hu, hv, hi, hz, Option.bind_some]
    rw [if_pos ⟨h1, by omega⟩]
    simp only [Dp, ha, hz, Option.bind_some, hcs, if_pos h4, h5, Option.map_some]
   ·cases hs
  ·cases hs
 ·cases hs
end
end Go.Av
end
/-
 A part.
-/
section
namespace Go.Av
set_option linter.unusedVariables false
set_option linter.unusedSimpArgs false
section
variable {α : Type} {e : α → List AA} {z : Nat} {g : Gd} {h : AD} {L F : List Ck}
theorem HH.X6 (a : HH g h L F) (k k2 : Nat) {id id2 n m bytes : Nat} {e : TypeId} {cs ds : List AA} (hk : L[k]? = some (.obj id (.cells (some e) 2 cs))) (hk2 : L[k2]? = some (.obj id2 (.cells (some e) 2 ds)))
  (hn : cs.length = n) (hm : ds.length = m) (hm0 : m ≠ 0) (hc : ds.map EV = ds) (hb : R4 bytes (n + m) = true) (h1 : cs.all AA.one = true) (h2 : ds.all AA.one = true) :
  ∃ id' h', Av.app e 1 bytes g h ⟨some (id, 0), n⟩ m (.slice (some (id2, 0)) m) = some (⟨some (id', 0), n + m⟩, h') ∧ HH g h' (L.set k (.obj id' (.cells (some e) 2 (cs ++ ds)))) F := by
 have hg : h.get id = some (.cells (some e) 2 cs) := a.mem hk
 have hg2 : h.get id2 = some (.cells (some e) 2 ds) := a.mem hk2
 have hid := h.Ay hg
 refine ⟨h.size, (h.set id (.cells (some e) 0 [])).push (.cells (some e) 2 (cs ++ ds)), ?_, ?_⟩
 ·unfold Av.app
  have hb := of_decide_eq_true hb
  rw [if_neg hm0, if_pos (show n + m ≤ 1099511627776 ∧ (n + m) * bytes ≤ 1099511627776 from hb)]
  have f2 : DC h 1 m (.slice (some (id2, 0)) m) = some ds := by
   unfold DC
   simp only
   rw [if_neg hm0]
   unfold Bx
   simp only [hg2]
   rw [if_pos ⟨by simp, by omega⟩, List.drop_zero, Nat.mul_one, ← hm, List.take_length]
  have f1 : DC h 1 n (.slice (some (id, 0)) n) = some cs := by
   unfold DC
   simp only
   by_cases h0 : n = 0
   ·rw [if_pos h0]; subst h0; rw [List.eq_nil_of_length_eq_zero hn]
   ·rw [if_neg h0]
    unfold Bx
    simp only [hg]
    rw [if_pos ⟨by simp, by omega⟩, List.drop_zero, Nat.mul_one, ← hn, List.take_length]
  simp only [f2, Option.map_some, hc, f1]
  rw [if_pos (by rw [List.all_append, h1, h2]; rfl)]
  simp only [hg]
  rw [if_pos ⟨a.K5 hk (by simp [Ck.ids]), trivial⟩]
 ·refine a.Ov hk (by simp) (fun i hi hn => ?_) ?_ (fun i hi => by simp [Ck.ids] at hi; omega) (fun i hi => by simp [Ck.ids] at hi; rw [hi]; exact a.new)
  ·rw [AD.BR _ _ (by simpa using hi)]
   exact h.A8 _ hid (by simpa [Ck.ids] using hn)
  ·have := AD.Bh (h.set id (.cells (some e) 0 [])) (.cells (some e) 2 (cs ++ ds))
   simp only [AD.size_set] at this
   exact this
end
end Go.Av
end
