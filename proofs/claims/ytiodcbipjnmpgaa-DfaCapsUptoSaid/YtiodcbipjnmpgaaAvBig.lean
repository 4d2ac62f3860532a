/-
  AV: great arrays: functions of their places.
-/
import Derived.Test.YtiodcbipjnmpgaaAvChan
namespace Go.Av
set_option linter.unusedVariables false
set_option linter.unusedSimpArgs false
section
variable {α : Type} {g : Gd} {h : AHeap} {L F : List Ck}
def big (n : Nat) (e : α → AVal) (X : Nat → α) : List AVal := (List.range n).map fun i => e (X i)
def big0 : Nat → Int := fun _ => 0
def bset (X : Nat → α) (i : Nat) (y : α) : Nat → α := fun j => bif Nat.beq j i then y else X j
def ixB (n : Nat) (X : Nat → α) (i : Int) : Option α := if 0 ≤ i ∧ i.toNat < n then some (X i.toNat) else none
theorem ixB_some {n : Nat} {X : Nat → α} {i : Int} {x : α} (hx : ixB n X i = some x) : 0 ≤ i ∧ i.toNat < n ∧ X i.toNat = x := by
 unfold ixB at hx
 split at hx
 ·rename_i hc; exact ⟨hc.1, hc.2, Option.some.inj hx⟩
 ·cases hx
theorem big_length (n : Nat) (e : α → AVal) (X : Nat → α) : (big n e X).length = n := by simp [big]
theorem bset_same (X : Nat → α) (i : Nat) (y : α) : bset X i y i = y := by
 unfold bset
 rw [show Nat.beq i i = true from Nat.beq_refl i]; rfl
theorem bset_ne (X : Nat → α) {i j : Nat} (y : α) (h : j ≠ i) : bset X i y j = X j := by
 unfold bset
 cases hb : Nat.beq j i with
 | true => exact absurd (Nat.eq_of_beq_eq_true hb) h
 | false => rfl
theorem big_set (n : Nat) (e : α → AVal) (X : Nat → α) (i : Nat) (y : α) : (big n e X).set i (e y) = big n e (bset X i y) := by
 unfold big
 refine List.ext_getElem? fun j => ?_
 rw [List.getElem?_set]
 simp only [List.length_map, List.length_range, List.getElem?_map]
 by_cases hj : i = j
 ·subst hj
  by_cases hn : i < n
  ·simp [hn, bset_same]
  ·simp [hn]
 ·by_cases hn : j < n
  ·simp [hj, hn, bset_ne X y (Ne.symm hj)]
  ·simp [hj, hn]
theorem big_drop {n : Nat} (e : α → AVal) {X : Nat → α} (r : List AVal) {i : Int} {x : α} (hx : ixB n X i = some x) : ∃ tl, (big n e X ++ r).drop (i.toNat * 1) = [e x] ++ tl := by
 obtain ⟨h1, h2, h3⟩ := ixB_some hx
 rw [Nat.mul_one]
 have hl : i.toNat < (big n e X ++ r).length := by rw [List.length_append, big_length]; omega
 refine ⟨(big n e X ++ r).drop (i.toNat + 1), ?_⟩
 rw [List.drop_eq_getElem_cons hl, List.getElem_append_left (by rw [big_length]; exact h2)]
 simp [big, h3]
theorem ixA_big {n : Nat} {X : Nat → α} {i : Int} {x : α} (hx : ixB n X i = some x) (a : Nat × Nat) (z : Nat) : ixA a n z i = some (a.1, a.2 + i.toNat * z) := by
 obtain ⟨h1, h2, _⟩ := ixB_some hx
 unfold ixA
 rw [if_pos ⟨h1, by omega⟩]
theorem HH.stB (a : HH g h L F) (k : Nat) {id n : Nat} {gr : Option TypeId} (e : α → AVal) {X : Nat → α} (pre post : List AVal) {off : Nat} (hk : L[k]? = some (.obj id (.cells gr 2 (pre ++ (big n e X ++ post))))) (hp : pre.length = off) {i : Int} {x : α} (y : α) (hx : ixB n X i = some x) (h1 : (e y).one = true) :
  ∃ h', Av.st g h (id, off + i.toNat * 1) [e y] = some h' ∧ HH g h' (L.set k (.obj id (.cells gr 2 (pre ++ (big n e (bset X i.toNat y) ++ post))))) F := by
 obtain ⟨h2, h3, h4⟩ := ixB_some hx
 refine a.st k hk (o := off + i.toNat * 1) (by simp [big_length]; omega) (by simpa using h1) ?_
 rw [← hp, Nat.mul_one, splice_mid1 _ _ _ _ _ (by rw [big_length]; exact h3), big_set]
theorem frzL_big (k : IntKind) (X : Nat → Int) (n : Nat) (r : List AVal) : frzL (frz1 g) (big n (AVal.int k) X ++ r) h = (frzL (frz1 g) r h).map fun q => (big n (AVal.int k) X ++ q.1, q.2) := by
 unfold big
 generalize List.range n = l
 induction l with
 | nil => simp
 | cons i l ih =>
  have e : frzL (frz1 g) ((AVal.int k (X i) :: l.map fun i => AVal.int k (X i)) ++ r) h = (frzL (frz1 g) ((l.map fun i => AVal.int k (X i)) ++ r) h).map fun q : List AVal × AHeap => (AVal.int k (X i) :: q.1, q.2) := rfl
  rw [List.map_cons, e, ih, Option.map_map]
  rfl
theorem frzL_one (v : AVal) (r : List AVal) : frzL (frz1 g) ([v] ++ r) h = frzL (frz1 g) (v :: r) h := rfl
end
section
variable {C : Cfg} {S : Self} {g : Gd} {h : AHeap} {fr : Fr} {op : Op}
def spIxBg (P : Program) (fr : Fr) : Op → Option (List AVal × Nat × Nat × Int)
 | .indexAddr t x i =>
  match P.underlying t, ev fr x, ev fr i with
  | some (.array n e), .vptr cs, .int _ i => (szOf P e).map fun z => (cs, n, z, i)
  | _, _, _ => none
 | _ => none
theorem s_ixBg {α : Type} {cs ds : List AVal} {n z : Nat} {i : Int} {X : Nat → α} {x : α} (hs : spIxBg C.P fr op = some (cs, n, z, i)) (hx : ixB n X i = some x) (hd : cs.drop (i.toNat * z) = ds) : stepA C S g h fr op = some (.vptr ds, h) := by
 obtain ⟨h1, h2, _⟩ := ixB_some hx
 unfold spIxBg at hs
 split at hs
 ·split at hs
  ·rename_i hu hv hi
   simp only [Option.map_eq_some_iff, Prod.mk.injEq] at hs
   obtain ⟨m, h3, e1, e2, e3, e4⟩ := hs
   subst e1 e2 e3 e4
   simp [stepA, opA, clsOf, opP, indexAddrA, hu, hv, hi, h3, hd]
   first | done | (refine ⟨?_, ?_⟩ <;> omega) | omega
  ·cases hs
 ·cases hs
end
end Go.Av
