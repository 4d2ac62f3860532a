/-
  ABS, 18b: more rules for models: results that lie in cells, indexes into arrays, structs that are held against each other.
-/
import Derived.Test.YtipknimgfcokeaaGreatDoorAvWalk
namespace Go.Av
set_option linter.unusedSimpArgs false
def KN (l : List (Nat × List AB)) (g : Nat) : Option (List AB) :=
 match l with
 | [] => none
 | (i, cs) :: r => bif Nat.beq i g then some cs else KN r g
def Oj (l : List (Nat × AB)) (d : Nat) : Option AB :=
 match l with
 | [] => none
 | (i, v) :: r => bif Nat.beq i d then some v else Oj r d
def Rf (l : List (Nat × AB)) (d : Nat) (w : AB) : List (Nat × AB) :=
 match l with
 | [] => []
 | (i, v) :: r => bif Nat.beq i d then (i, w) :: r else (i, v) :: Rf r d w
theorem MI {v : AB} {d : Nat} : ∀ {l : List (Nat × AB)}, Oj l d = some v → (d, v) ∈ l
 | [], h => by cases h
 | (i, u) :: r, h => by
  unfold Oj at h
  rw [Hr] at h
  by_cases e : i = d
  ·rw [if_pos e] at h; injection h with h; rw [h, e]; simp
  ·rw [if_neg e] at h; exact List.mem_cons_of_mem _ (MI h)
theorem QM {w : AB} {d : Nat} : ∀ {l : List (Nat × AB)} {p : Nat × AB}, p ∈ Rf l d w → p ∈ l ∨ p = (d, w)
 | [], p, h => by cases h
 | (i, u) :: r, p, h => by
  unfold Rf at h
  rw [Hr] at h
  by_cases e : i = d
  ·rw [if_pos e] at h
   rcases List.mem_cons.1 h with h | h
   ·right; rw [h, e]
   ·left; exact List.mem_cons_of_mem _ h
  ·rw [if_neg e] at h
   rcases List.mem_cons.1 h with h | h
   ·left; rw [h]; simp
   ·rcases QM h with h | h
    ·left; exact List.mem_cons_of_mem _ h
    ·right; exact h
theorem Has.Ve {fr : Fr} {N : Nat} {l : List (Nat × AB)} (H : Has fr N l) (d : Nat) {b w : Bool} (hb : b = w) (hd : Oj l d = some (.bool b)) : Has fr N (Rf l d (.bool w)) := by
 subst hb
 refine ⟨H.1, fun p hp => ?_⟩
 rcases QM hp with h | h
 ·exact H.2 p h
 ·rw [h]; exact H.2 _ (MI hd)
inductive PU (P : Program) (fr : Fr) (h : AH) : List ResultVar → List AB → Prop where
 | nil : PU P fr h [] []
 | tmp {t : Tmp} {v : AB} {rs : List ResultVar} {vs : List AB} (e : nth fr t = v) (r : PU P fr h rs vs) : PU P fr h (.tmp t :: rs) (v :: vs)
 | cell {a : Tmp} {t : TypeId} {p : Nat × Nat} {v : AB} {rs : List ResultVar} {vs : List AB} (e : nth fr a = .ptr (some p)) (hl : Gl P (h.get p.1) t p.2 = some v) (r : PU P fr h rs vs) : PU P fr h (.cell a t :: rs) (v :: vs)
theorem PU.mapM {P : Program} {fr : Fr} {h : AH} {rs : List ResultVar} {vs : List AB} (r : PU P fr h rs vs) : rs.mapM (HB P fr h) = some vs := by
 induction r with
 | nil => rfl
 | tmp e _ ih => rw [List.mapM_cons, ih]; simp [HB, e]
 | cell e hl _ ih => rw [List.mapM_cons, ih]; simp [HB, e, hl]
theorem JA {P : Program} {fr : Fr} {h : AH} {rs : List ResultVar} {v : AB} (r : PU P fr h rs [v]) : K0 P rs fr h = some v := by
 unfold K0; rw [r.mapM]
theorem Bm {P : Program} {fr : Fr} {h : AH} {rs : List ResultVar} {v w : AB} {vs : List AB} (r : PU P fr h rs (v :: w :: vs)) : K0 P rs fr h = some (.tuple (v :: w :: vs)) := by
 unfold K0; rw [r.mapM]
theorem Bl {P : Program} {h : AH} {t : TypeId} {a : Nat × Nat} {n : Nat} {cs : List AB} (ha : Jp P t = some true) (hn : Cx P t = some n) (hl : GX h a n = some cs) : Gl P (h.get a.1) t a.2 = some (.agg cs) := by
 unfold Gl
 rw [ha, hn]
 unfold GX at hl
 simp [hl]
section
variable {C : IJ} {S : Self} {g : Gd} {h : AH} {fr : Fr} {op : Op}
def X5 (P : Program) (fr : Fr) : Op → Option (List AB × Nat × Nat × Int × Bool)
 | .index t x i =>
  match P.underlying t, ev fr x, ev fr i with
  | some (.array n e), .agg cs, .int _ i =>
   match Jp P e, Cx P e with
   | some b, some z => some (cs, n, z, i, b)
   | _, _ => none
  | _, _, _ => none
 | _ => none
def WN (P : Program) (t : TypeId) (xs ys : List AB) : Option Bool := if P.eqGuardType P.depth t = true then none else La P 10000 t (.agg xs) (.agg ys)
def VH (fr : Fr) : Op → Option (Bool × TypeId × List AB × List AB)
 | .binOp op t x y _ =>
  match ev fr x, ev fr y, op with
  | .agg xs, .agg ys, .eql => some (true, t, xs, ys)
  | .agg xs, .agg ys, .neq => some (false, t, xs, ys)
  | _, _, _ => none
 | _ => none
theorem Wi {t : TypeId} {xs ys : List AB} {b : Bool} (hs : VH fr op = some (false, t, xs, ys)) (hl : WN C.P t xs ys = some b) : Bq C S g h fr op = some (.bool !b, h) := by
 unfold VH at hs
 split at hs
 ·split at hs
  ·simp at hs
  ·rename_i hx hy
   simp only [Option.some.injEq, Prod.mk.injEq, true_and] at hs
   obtain ⟨rfl, rfl, rfl⟩ := hs
   unfold WN at hl
   split at hl
   ·cases hl
   ·rename_i hg
    simp [Bq, Hy, BS, IX, Qm, Q7, hx, hy, hg, hl]
  ·cases hs
 ·cases hs
def XJ (h : AH) : Option Nat → Option (List (AB × AB))
 | none => some []
 | some id =>
  match h.get id with
  | some (.map st es) => if st ≠ 0 then some es else none
  | _ => none
def WK (P : Program) (h : AH) (t : TypeId) (m : Option Nat) (k : AB) : Option (AB × Bool) :=
 match P.underlying t with
 | some (.map kt et) =>
  if GF P 20 kt k = true then
   match XJ h m with
   | some es =>
    match HR P kt k es 0 with
    | some (some (_, v)) => some (v, true)
    | some none => (Hk P et).map fun z => (z, false)
    | none => none
   | none => none
  else none
 | _ => none
def Uh (fr : Fr) : Op → Option (TypeId × Option Nat × AB × Bool)
 | .lookup t x k ok =>
  match ev fr x with
  | .map m => some (t, m, ev fr k, ok)
  | _ => none
 | _ => none
theorem QN {P : Program} {h : AH} {t : TypeId} {m : Option Nat} {k v : AB} {b ok : Bool} (hl : WK P h t m k = some (v, b)) :
  ∃ ob, (∀ id, m = some id → h.get id = some ob) ∧ Kv P (m.map fun _ => ob) t (.map m) k ok = some (if ok then .tuple [v, .bool b] else v) := by
 unfold WK at hl
 split at hl
 ·rename_i kt et hu
  split at hl
  ·rename_i hk
   split at hl
   ·rename_i es he
    cases m with
    | none =>
     refine ⟨default, by simp, ?_⟩
     simp only [XJ, Option.some.injEq] at he
     subst he
     simp only [HR] at hl
     unfold Kv
     simp only [hu, hk, if_true, HR]
     cases hz : Hk P et with
     | none => rw [hz] at hl; simp at hl
     | some z =>
      rw [hz] at hl
      simp only [Option.map_some, Option.some.injEq, Prod.mk.injEq] at hl
      obtain ⟨rfl, rfl⟩ := hl
      rfl
    | some id =>
     simp only [XJ] at he
     split at he
     ·rename_i st es' hg
      split at he
      ·rename_i hst
       simp only [Option.some.injEq] at he
       subst he
       refine ⟨.map st es', fun i hi => by simp only [Option.some.injEq] at hi; subst hi; exact hg, ?_⟩
       unfold Kv
       simp only [hu, hk, if_true, Option.map_some, hst, ne_eq, not_false_eq_true]
       split at hl
       ·rename_i i w hf
        simp only [Option.some.injEq, Prod.mk.injEq] at hl
        obtain ⟨rfl, rfl⟩ := hl
        rw [hf]
       ·rename_i hf
        rw [hf]
        cases hz : Hk P et with
        | none => rw [hz] at hl; simp at hl
        | some z =>
         rw [hz] at hl
         simp only [Option.map_some, Option.some.injEq, Prod.mk.injEq] at hl
         obtain ⟨rfl, rfl⟩ := hl
         rfl
       ·cases hl
      ·cases he
     ·cases he
   ·cases hl
  ·cases hl
 ·cases hl
theorem Wp {t : TypeId} {m : Option Nat} {k v : AB} {b ok : Bool} (hs : Uh fr op = some (t, m, k, ok)) (hl : WK C.P h t m k = some (v, b)) : Bq C S g h fr op = some (if ok then .tuple [v, .bool b] else v, h) := by
 unfold Uh at hs
 split at hs
 ·split at hs
  ·rename_i ok' _ m' hx
   simp only [Option.some.injEq, Prod.mk.injEq] at hs
   obtain ⟨rfl, rfl, rfl, rfl⟩ := hs
   obtain ⟨ob, h1, h2⟩ := QN (ok := ok') hl
   cases hm : m' with
   | none =>
    subst hm
    simp only [Option.map_none] at h2
    simp [Bq, Hy, BS, Du, hx, E4, KF, h2]
   | some id =>
    subst hm
    simp only [Option.map_some] at h2
    simp [Bq, Hy, BS, Du, hx, E4, KF, h1 id rfl, h2]
  ·cases hs
 ·cases hs
theorem VW {t : TypeId} {m : Option Nat} {k v : AB} {b : Bool} (hs : Uh fr op = some (t, m, k, true)) (hl : WK C.P h t m k = some (v, b)) : Bq C S g h fr op = some (.tuple [v, .bool b], h) := Wp hs hl
theorem Ws {t : TypeId} {m : Option Nat} {k v : AB} {b : Bool} (hs : Uh fr op = some (t, m, k, false)) (hl : WK C.P h t m k = some (v, b)) : Bq C S g h fr op = some (v, h) := Wp hs hl
def XH (P : Program) (g : Gd) (h : AH) (t : TypeId) (m : Option Nat) (k v : AB) : Option AH := Gk P g h t (.map m) k v
def Wz (fr : Fr) : Op → Option (TypeId × Option Nat × AB × AB)
 | .mapUpdate t m k v | .insert t m k v =>
  match ev fr m with
  | .map m => some (t, m, ev fr k, ev fr v)
  | _ => none
 | _ => none
theorem Rq {t : TypeId} {m : Option Nat} {k v : AB} {h' : AH} (hs : Wz fr op = some (t, m, k, v)) (hl : XH C.P g h t m k v = some h') : Bq C S g h fr op = some (.tuple [], h') := by
 unfold XH at hl
 unfold Wz at hs
 split at hs
 ·split at hs
  ·rename_i hx
   simp only [Option.some.injEq, Prod.mk.injEq] at hs
   obtain ⟨rfl, rfl, rfl, rfl⟩ := hs
   simp [Bq, Hy, BS, KH, hx, hl]
  ·cases hs
 ·split at hs
  ·rename_i hx
   simp only [Option.some.injEq, Prod.mk.injEq] at hs
   obtain ⟨rfl, rfl, rfl, rfl⟩ := hs
   simp [Bq, Hy, BS, KH, hx, hl]
  ·cases hs
 ·cases hs
end
@[irreducible] def J8 : Nat := 4611686018427387904
theorem Rw : J8 = 4611686018427387904 := by unfold J8; rfl
def cap {α β : Type} (as : AB → Option α) (rest : List AB → Option β) : List AB → Option (α × β)
 | v :: l => (as v).bind fun x => (rest l).map fun y => (x, y)
 | [] => none
end Go.Av
