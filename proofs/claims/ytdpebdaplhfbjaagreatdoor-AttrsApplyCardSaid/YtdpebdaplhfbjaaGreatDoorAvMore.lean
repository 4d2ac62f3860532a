/-
  ABS, 18b: more rules for models: results that lie in cells, indexes into arrays, structs that are held against each other.
-/
import Derived.Test.YtdpebdaplhfbjaaGreatDoorAvWalk
namespace Go.Av
set_option linter.unusedSimpArgs false
def lookG (l : List (Nat × List AVal)) (g : Nat) : Option (List AVal) :=
 match l with
 | [] => none
 | (i, cs) :: r => bif Nat.beq i g then some cs else lookG r g
def lookK (l : List (Nat × AVal)) (d : Nat) : Option AVal :=
 match l with
 | [] => none
 | (i, v) :: r => bif Nat.beq i d then some v else lookK r d
def setK (l : List (Nat × AVal)) (d : Nat) (w : AVal) : List (Nat × AVal) :=
 match l with
 | [] => []
 | (i, v) :: r => bif Nat.beq i d then (i, w) :: r else (i, v) :: setK r d w
theorem lookK_mem {v : AVal} {d : Nat} : ∀ {l : List (Nat × AVal)}, lookK l d = some v → (d, v) ∈ l
 | [], h => by cases h
 | (i, u) :: r, h => by
  unfold lookK at h
  rw [bif_beq] at h
  by_cases e : i = d
  ·rw [if_pos e] at h; injection h with h; rw [h, e]; simp
  ·rw [if_neg e] at h; exact List.mem_cons_of_mem _ (lookK_mem h)
theorem setK_mem {w : AVal} {d : Nat} : ∀ {l : List (Nat × AVal)} {p : Nat × AVal}, p ∈ setK l d w → p ∈ l ∨ p = (d, w)
 | [], p, h => by cases h
 | (i, u) :: r, p, h => by
  unfold setK at h
  rw [bif_beq] at h
  by_cases e : i = d
  ·rw [if_pos e] at h
   rcases List.mem_cons.1 h with h | h
   ·right; rw [h, e]
   ·left; exact List.mem_cons_of_mem _ h
  ·rw [if_neg e] at h
   rcases List.mem_cons.1 h with h | h
   ·left; rw [h]; simp
   ·rcases setK_mem h with h | h
    ·left; exact List.mem_cons_of_mem _ h
    ·right; exact h
theorem Has.know {fr : Fr} {N : Nat} {l : List (Nat × AVal)} (H : Has fr N l) (d : Nat) {b w : Bool} (hb : b = w) (hd : lookK l d = some (.bool b)) : Has fr N (setK l d (.bool w)) := by
 subst hb
 refine ⟨H.1, fun p hp => ?_⟩
 rcases setK_mem hp with h | h
 ·exact H.2 p h
 ·rw [h]; exact H.2 _ (lookK_mem hd)
inductive ResR (P : Program) (fr : Fr) (h : AHeap) : List ResultVar → List AVal → Prop where
 | nil : ResR P fr h [] []
 | tmp {t : Tmp} {v : AVal} {rs : List ResultVar} {vs : List AVal} (e : nth fr t = v) (r : ResR P fr h rs vs) : ResR P fr h (.tmp t :: rs) (v :: vs)
 | cell {a : Tmp} {t : TypeId} {p : Nat × Nat} {v : AVal} {rs : List ResultVar} {vs : List AVal} (e : nth fr a = .ptr (some p)) (hl : loadA P (h.get p.1) t p.2 = some v) (r : ResR P fr h rs vs) : ResR P fr h (.cell a t :: rs) (v :: vs)
theorem ResR.mapM {P : Program} {fr : Fr} {h : AHeap} {rs : List ResultVar} {vs : List AVal} (r : ResR P fr h rs vs) : rs.mapM (result1 P fr h) = some vs := by
 induction r with
 | nil => rfl
 | tmp e _ ih => rw [List.mapM_cons, ih]; simp [result1, e]
 | cell e hl _ ih => rw [List.mapM_cons, ih]; simp [result1, e, hl]
theorem resL_one {P : Program} {fr : Fr} {h : AHeap} {rs : List ResultVar} {v : AVal} (r : ResR P fr h rs [v]) : resL P rs fr h = some v := by
 unfold resL; rw [r.mapM]
theorem resL_many {P : Program} {fr : Fr} {h : AHeap} {rs : List ResultVar} {v w : AVal} {vs : List AVal} (r : ResR P fr h rs (v :: w :: vs)) : resL P rs fr h = some (.tuple (v :: w :: vs)) := by
 unfold resL; rw [r.mapM]
theorem load_ldA {P : Program} {h : AHeap} {t : TypeId} {a : Nat × Nat} {n : Nat} {cs : List AVal} (ha : isAggT P t = some true) (hn : szOf P t = some n) (hl : ldA h a n = some cs) : loadA P (h.get a.1) t a.2 = some (.agg cs) := by
 unfold loadA
 rw [ha, hn]
 unfold ldA at hl
 simp [hl]
section
variable {C : Cfg} {S : Self} {g : Gd} {h : AHeap} {fr : Fr} {op : Op}
def spIxG (P : Program) (fr : Fr) : Op → Option (List AVal × Nat × Nat × Int × Bool)
 | .index t x i =>
  match P.underlying t, ev fr x, ev fr i with
  | some (.array n e), .agg cs, .int _ i =>
   match isAggT P e, szOf P e with
   | some b, some z => some (cs, n, z, i, b)
   | _, _ => none
  | _, _, _ => none
 | _ => none
def eqG (P : Program) (t : TypeId) (xs ys : List AVal) : Option Bool := if P.eqGuardType P.depth t = true then none else eqA P 10000 t (.agg xs) (.agg ys)
def spEqG (fr : Fr) : Op → Option (Bool × TypeId × List AVal × List AVal)
 | .binOp op t x y _ =>
  match ev fr x, ev fr y, op with
  | .agg xs, .agg ys, .eql => some (true, t, xs, ys)
  | .agg xs, .agg ys, .neq => some (false, t, xs, ys)
  | _, _, _ => none
 | _ => none
theorem s_eqG {t : TypeId} {xs ys : List AVal} {b : Bool} (hs : spEqG fr op = some (true, t, xs, ys)) (hl : eqG C.P t xs ys = some b) : stepA C S g h fr op = some (.bool b, h) := by
 unfold spEqG at hs
 split at hs
 ·split at hs
  ·rename_i hx hy
   simp only [Option.some.injEq, Prod.mk.injEq, true_and] at hs
   obtain ⟨rfl, rfl, rfl⟩ := hs
   unfold eqG at hl
   split at hl
   ·cases hl
   ·rename_i hg
    simp [stepA, opA, clsOf, opP, binN, binA, hx, hy, hg, hl]
  ·simp at hs
  ·cases hs
 ·cases hs
theorem s_neG {t : TypeId} {xs ys : List AVal} {b : Bool} (hs : spEqG fr op = some (false, t, xs, ys)) (hl : eqG C.P t xs ys = some b) : stepA C S g h fr op = some (.bool !b, h) := by
 unfold spEqG at hs
 split at hs
 ·split at hs
  ·simp at hs
  ·rename_i hx hy
   simp only [Option.some.injEq, Prod.mk.injEq, true_and] at hs
   obtain ⟨rfl, rfl, rfl⟩ := hs
   unfold eqG at hl
   split at hl
   ·cases hl
   ·rename_i hg
    simp [stepA, opA, clsOf, opP, binN, binA, hx, hy, hg, hl]
  ·cases hs
 ·cases hs
def mpE (h : AHeap) : Option Nat → Option (List (AVal × AVal))
 | none => some []
 | some id =>
  match h.get id with
  | some (.map st es) => if st ≠ 0 then some es else none
  | _ => none
def mpL (P : Program) (h : AHeap) (t : TypeId) (m : Option Nat) (k : AVal) : Option (AVal × Bool) :=
 match P.underlying t with
 | some (.map kt et) =>
  if keyOkA P 20 kt k = true then
   match mpE h m with
   | some es =>
    match findA P kt k es 0 with
    | some (some (_, v)) => some (v, true)
    | some none => (zeroA P et).map fun z => (z, false)
    | none => none
   | none => none
  else none
 | _ => none
def spLk (fr : Fr) : Op → Option (TypeId × Option Nat × AVal × Bool)
 | .lookup t x k ok =>
  match ev fr x with
  | .map m => some (t, m, ev fr k, ok)
  | _ => none
 | _ => none
theorem lookupR_mpL {P : Program} {h : AHeap} {t : TypeId} {m : Option Nat} {k v : AVal} {b ok : Bool} (hl : mpL P h t m k = some (v, b)) :
  ∃ ob, (∀ id, m = some id → h.get id = some ob) ∧ lookupR P (m.map fun _ => ob) t (.map m) k ok = some (if ok then .tuple [v, .bool b] else v) := by
 unfold mpL at hl
 split at hl
 ·rename_i kt et hu
  split at hl
  ·rename_i hk
   split at hl
   ·rename_i es he
    cases m with
    | none =>
     refine ⟨default, by simp, ?_⟩
     simp only [mpE, Option.some.injEq] at he
     subst he
     simp only [findA] at hl
     unfold lookupR
     simp only [hu, hk, if_true, findA]
     cases hz : zeroA P et with
     | none => rw [hz] at hl; simp at hl
     | some z =>
      rw [hz] at hl
      simp only [Option.map_some, Option.some.injEq, Prod.mk.injEq] at hl
      obtain ⟨rfl, rfl⟩ := hl
      rfl
    | some id =>
     simp only [mpE] at he
     split at he
     ·rename_i st es' hg
      split at he
      ·rename_i hst
       simp only [Option.some.injEq] at he
       subst he
       refine ⟨.map st es', fun i hi => by simp only [Option.some.injEq] at hi; subst hi; exact hg, ?_⟩
       unfold lookupR
       simp only [hu, hk, if_true, Option.map_some, hst, ne_eq, not_false_eq_true]
       split at hl
       ·rename_i i w hf
        simp only [Option.some.injEq, Prod.mk.injEq] at hl
        obtain ⟨rfl, rfl⟩ := hl
        rw [hf]
       ·rename_i hf
        rw [hf]
        cases hz : zeroA P et with
        | none => rw [hz] at hl; simp at hl
        | some z =>
         rw [hz] at hl
         simp only [Option.map_some, Option.some.injEq, Prod.mk.injEq] at hl
         obtain ⟨rfl, rfl⟩ := hl
         rfl
       ·cases hl
      ·cases he
     ·cases he
   ·cases hl
  ·cases hl
 ·cases hl
theorem s_lk {t : TypeId} {m : Option Nat} {k v : AVal} {b ok : Bool} (hs : spLk fr op = some (t, m, k, ok)) (hl : mpL C.P h t m k = some (v, b)) : stepA C S g h fr op = some (if ok then .tuple [v, .bool b] else v, h) := by
 unfold spLk at hs
 split at hs
 ·split at hs
  ·rename_i ok' _ m' hx
   simp only [Option.some.injEq, Prod.mk.injEq] at hs
   obtain ⟨rfl, rfl, rfl, rfl⟩ := hs
   obtain ⟨ob, h1, h2⟩ := lookupR_mpL (ok := ok') hl
   cases hm : m' with
   | none =>
    subst hm
    simp only [Option.map_none] at h2
    simp [stepA, opA, clsOf, touchA, hx, refOf, opR, h2]
   | some id =>
    subst hm
    simp only [Option.map_some] at h2
    simp [stepA, opA, clsOf, touchA, hx, refOf, opR, h1 id rfl, h2]
  ·cases hs
 ·cases hs
theorem s_lkT {t : TypeId} {m : Option Nat} {k v : AVal} {b : Bool} (hs : spLk fr op = some (t, m, k, true)) (hl : mpL C.P h t m k = some (v, b)) : stepA C S g h fr op = some (.tuple [v, .bool b], h) := s_lk hs hl
end
@[irreducible] def bigF : Nat := 4611686018427387904
def cap {α β : Type} (as : AVal → Option α) (rest : List AVal → Option β) : List AVal → Option (α × β)
 | v :: l => (as v).bind fun x => (rest l).map fun y => (x, y)
 | [] => none
end Go.Av
