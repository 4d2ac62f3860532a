/-
  ABS, 18b: more rules for models: results that lie in cells, indexes into arrays, structs that are held against each other.
-/
import Derived.Test.YtklabpnclemmoaaAbsWalk
namespace Go.Abs

/-! ### a slot that is known -/
def lookK (l : List (Nat × AVal)) (d : Nat) : Option AVal :=
  match l with
  | [] => none
  | (i, v) :: r => bif Nat.beq i d then some v else lookK r d
def setK (l : List (Nat × AVal)) (d : Nat) (w : AVal) : List (Nat × AVal) :=
  match l with
  | [] => []
  | (i, v) :: r => bif Nat.beq i d then (i, w) :: r else (i, v) :: setK r d w
theorem lookK_mem {v : AVal} {d : Nat} : ∀ {l : List (Nat × AVal)}, lookK l d = some v → (d, v) ∈ l
  | [], h => by cases h
  | (i, u) :: r, h => by
    unfold lookK at h
    rw [bif_beq] at h
    by_cases e : i = d
    · rw [if_pos e] at h; injection h with h; rw [h, e]; simp
    · rw [if_neg e] at h; exact List.mem_cons_of_mem _ (lookK_mem h)
theorem setK_mem {w : AVal} {d : Nat} : ∀ {l : List (Nat × AVal)} {p : Nat × AVal}, p ∈ setK l d w → p ∈ l ∨ p = (d, w)
  | [], p, h => by cases h
  | (i, u) :: r, p, h => by
    unfold setK at h
    rw [bif_beq] at h
    by_cases e : i = d
    · rw [if_pos e] at h
      rcases List.mem_cons.1 h with h | h
      · right; rw [h, e]
      · left; exact List.mem_cons_of_mem _ h
    · rw [if_neg e] at h
      rcases List.mem_cons.1 h with h | h
      · left; rw [h]; simp
      · rcases setK_mem h with h | h
        · left; exact List.mem_cons_of_mem _ h
        · right; exact h
theorem Has.know {fr : Fr} {N : Nat} {l : List (Nat × AVal)} (H : Has fr N l) (d : Nat) {b w : Bool} (hb : b = w) (hd : lookK l d = some (.bool b)) : Has fr N (setK l d (.bool w)) := by
  subst hb
  refine ⟨H.1, fun p hp => ?_⟩
  rcases setK_mem hp with h | h
  · exact H.2 p h
  · rw [h]; exact H.2 _ (lookK_mem hd)

/-! ### results -/
inductive ResR (P : Program) (fr : Fr) (h : AHeap) : List ResultVar → List AVal → Prop where
  | nil : ResR P fr h [] []
  | tmp {t : Tmp} {v : AVal} {rs : List ResultVar} {vs : List AVal} (e : nth fr t = v) (r : ResR P fr h rs vs) : ResR P fr h (.tmp t :: rs) (v :: vs)
  | cell {a : Tmp} {t : TypeId} {p : Nat × Nat} {v : AVal} {rs : List ResultVar} {vs : List AVal} (e : nth fr a = .ptr (some p)) (hl : loadA P (h.get p.1) t p.2 = some v) (r : ResR P fr h rs vs) : ResR P fr h (.cell a t :: rs) (v :: vs)
theorem ResR.mapM {P : Program} {fr : Fr} {h : AHeap} {rs : List ResultVar} {vs : List AVal} (r : ResR P fr h rs vs) : rs.mapM (result1 P fr h) = some vs := by
  induction r with
  | nil => rfl
  | tmp e _ ih => rw [List.mapM_cons, ih]; simp [result1, e]
  | cell e hl _ ih => rw [List.mapM_cons, ih]; simp [result1, e, hl]
theorem resL_one {P : Program} {fr : Fr} {h : AHeap} {rs : List ResultVar} {v : AVal} (r : ResR P fr h rs [v]) : resL P rs fr h = some v := by
  unfold resL; rw [r.mapM]
theorem resL_none {P : Program} {fr : Fr} {h : AHeap} {rs : List ResultVar} (r : ResR P fr h rs []) : resL P rs fr h = some (.tuple []) := by
  unfold resL; rw [r.mapM]
theorem resL_many {P : Program} {fr : Fr} {h : AHeap} {rs : List ResultVar} {v w : AVal} {vs : List AVal} (r : ResR P fr h rs (v :: w :: vs)) : resL P rs fr h = some (.tuple (v :: w :: vs)) := by
  unfold resL; rw [r.mapM]
theorem load_ld {P : Program} {h : AHeap} {t : TypeId} {a : Nat × Nat} {v : AVal} (ha : isAggT P t = some false) (hl : ld1 h a = some v) : loadA P (h.get a.1) t a.2 = some v := by
  unfold loadA
  rw [ha]
  exact hl
theorem load_ldA {P : Program} {h : AHeap} {t : TypeId} {a : Nat × Nat} {n : Nat} {cs : List AVal} (ha : isAggT P t = some true) (hn : szOf P t = some n) (hl : ldA h a n = some cs) : loadA P (h.get a.1) t a.2 = some (.agg cs) := by
  unfold loadA
  rw [ha, hn]
  unfold ldA at hl
  simp [hl]

/-! ### arrays as values -/
def ixG (cs : List AVal) (n z : Nat) (i : Int) : Option AVal := if 0 ≤ i ∧ i < n then fl1 cs (i.toNat * z) else none
def ixGA (cs : List AVal) (n z : Nat) (i : Int) : Option (List AVal) := if 0 ≤ i ∧ i < n then flA cs (i.toNat * z) z else none
section
variable {C : Cfg} {S : Self} {g : Gd} {h : AHeap} {fr : Fr} {op : Op}
def spIxG (P : Program) (fr : Fr) : Op → Option (List AVal × Nat × Nat × Int × Bool)
  | .index t x i =>
    match P.underlying t, ev fr x, ev fr i with
    | some (.array n e), .agg cs, .int _ i =>
      match isAggT P e, szOf P e with
      | some b, some z => some (cs, n, z, i, b)
      | _, _ => none
    | _, _, _ => none
  | _ => none
theorem s_ixG {cs : List AVal} {n z : Nat} {i : Int} {v : AVal} (hs : spIxG C.P fr op = some (cs, n, z, i, false)) (hl : ixG cs n z i = some v) : stepA C S g h fr op = some (v, h) := by
  unfold spIxG at hs
  split at hs
  · split at hs
    · rename_i hu hx hi
      split at hs
      · rename_i b z' ha hz
        simp only [Option.some.injEq, Prod.mk.injEq] at hs
        obtain ⟨rfl, rfl, rfl, rfl, rfl⟩ := hs
        unfold ixG at hl
        split at hl
        · rename_i hb
          unfold fl1 at hl
          simp [stepA, opA, clsOf, opP, indexA, hu, hx, hi, hb, hz, partA, ha, hl]
        · cases hl
      · cases hs
    · cases hs
  · cases hs
theorem s_ixGA {cs ds : List AVal} {n z : Nat} {i : Int} (hs : spIxG C.P fr op = some (cs, n, z, i, true)) (hl : ixGA cs n z i = some ds) : stepA C S g h fr op = some (.agg ds, h) := by
  unfold spIxG at hs
  split at hs
  · split at hs
    · rename_i hu hx hi
      split at hs
      · rename_i b z' ha hz
        simp only [Option.some.injEq, Prod.mk.injEq] at hs
        obtain ⟨rfl, rfl, rfl, rfl, rfl⟩ := hs
        unfold ixGA at hl
        split at hl
        · rename_i hb
          unfold flA at hl
          split at hl
          · rename_i hle
            simp only [Option.some.injEq] at hl
            subst hl
            simp [stepA, opA, clsOf, opP, indexA, hu, hx, hi, hb, hz, partA, ha, hle]
          · cases hl
        · cases hl
      · cases hs
    · cases hs
  · cases hs

/-! ### structs against each other -/
def eqG (P : Program) (t : TypeId) (xs ys : List AVal) : Option Bool := if P.eqGuardType P.depth t = true then none else eqA P 10000 t (.agg xs) (.agg ys)
/-- '==' (true) or '!=' (false) -/
def spEqG (fr : Fr) : Op → Option (Bool × TypeId × List AVal × List AVal)
  | .binOp op t x y _ =>
    match ev fr x, ev fr y, op with
    | .agg xs, .agg ys, .eql => some (true, t, xs, ys)
    | .agg xs, .agg ys, .neq => some (false, t, xs, ys)
    | _, _, _ => none
  | _ => none
theorem s_eqG {t : TypeId} {xs ys : List AVal} {b : Bool} (hs : spEqG fr op = some (true, t, xs, ys)) (hl : eqG C.P t xs ys = some b) : stepA C S g h fr op = some (.bool b, h) := by
  unfold spEqG at hs
  split at hs
  · split at hs
    · rename_i hx hy
      simp only [Option.some.injEq, Prod.mk.injEq, true_and] at hs
      obtain ⟨rfl, rfl, rfl⟩ := hs
      unfold eqG at hl
      split at hl
      · cases hl
      · rename_i hg
        simp [stepA, opA, clsOf, opP, binA, hx, hy, hg, hl]
    · simp at hs
    · cases hs
  · cases hs
theorem s_neG {t : TypeId} {xs ys : List AVal} {b : Bool} (hs : spEqG fr op = some (false, t, xs, ys)) (hl : eqG C.P t xs ys = some b) : stepA C S g h fr op = some (.bool !b, h) := by
  unfold spEqG at hs
  split at hs
  · split at hs
    · simp at hs
    · rename_i hx hy
      simp only [Option.some.injEq, Prod.mk.injEq, true_and] at hs
      obtain ⟨rfl, rfl, rfl⟩ := hs
      unfold eqG at hl
      split at hl
      · cases hl
      · rename_i hg
        simp [stepA, opA, clsOf, opP, binA, hx, hy, hg, hl]
    · cases hs
  · cases hs
end
end Go.Abs
