/-
 A part.
-/
import Derived.Test.YtlljeoogceblmaaGreatDoorAvWalk
namespace Go.Av
set_option linter.unusedSimpArgs false
def Jp (l : List (Nat × List AA)) (g : Nat) : Option (List AA) :=
 match l with
 | [] => none
 | (i, cs) :: r => bif Nat.beq i g then some cs else Jp r g
def PN (l : List (Nat × AA)) (d : Nat) : Option AA :=
 match l with
 | [] => none
 | (i, v) :: r => bif Nat.beq i d then some v else PN r d
def NV (l : List (Nat × AA)) (d : Nat) (w : AA) : List (Nat × AA) :=
 match l with
 | [] => []
 | (i, v) :: r => bif Nat.beq i d then (i, w) :: r else (i, v) :: NV r d w
theorem Lz {v : AA} {d : Nat} : ∀ {l : List (Nat × AA)}, PN l d = some v → (d, v) ∈ l
 | [], h => by cases h
 | (i, u) :: r, h => by
  unfold PN at h
  rw [G1] at h
  by_cases e : i = d
  ·rw [if_pos e] at h; injection h with h; rw [h, e]; simp
  ·rw [if_neg e] at h; exact List.mem_cons_of_mem _ (Lz h)
theorem RN {w : AA} {d : Nat} : ∀ {l : List (Nat × AA)} {p : Nat × AA}, p ∈ NV l d w → p ∈ l ∨ p = (d, w)
 | [], p, h => by cases h
 | (i, u) :: r, p, h => by
  unfold NV at h
  rw [G1] at h
  by_cases e : i = d
  ·rw [if_pos e] at h
   rcases List.mem_cons.1 h with h | h
   ·right; rw [h, e]
   ·left; exact List.mem_cons_of_mem _ h
  ·rw [if_neg e] at h
   rcases List.mem_cons.1 h with h | h
   ·left; rw [h]; simp
   ·rcases RN h with h | h
    ·left; exact List.mem_cons_of_mem _ h
    ·right; exact h
theorem Has.Yn {fr : Fr} {N : Nat} {l : List (Nat × AA)} (H : Has fr N l) (d : Nat) {b w : Bool} (hb : b = w) (hd : PN l d = some (.bool b)) : Has fr N (NV l d (.bool w)) := by
 subst hb
 refine ⟨H.1, fun p hp => ?_⟩
 rcases RN hp with h | h
 ·exact H.2 p h
 ·rw [h]; exact H.2 _ (Lz hd)
inductive Pv (P : Program) (fr : Fr) (h : AD) : List ResultVar → List AA → Prop where
 | nil : Pv P fr h [] []
 | tmp {t : Tmp} {v : AA} {rs : List ResultVar} {vs : List AA} (e : nth fr t = v) (r : Pv P fr h rs vs) : Pv P fr h (.tmp t :: rs) (v :: vs)
 | cell {a : Tmp} {t : TypeId} {p : Nat × Nat} {v : AA} {rs : List ResultVar} {vs : List AA} (e : nth fr a = .ptr (some p)) (hl : Fw P (h.get p.1) t p.2 = some v) (r : Pv P fr h rs vs) : Pv P fr h (.cell a t :: rs) (v :: vs)
theorem Pv.mapM {P : Program} {fr : Fr} {h : AD} {rs : List ResultVar} {vs : List AA} (r : Pv P fr h rs vs) : rs.mapM (GN P fr h) = some vs := by
 induction r with
 | nil => rfl
 | tmp e _ ih => rw [List.mapM_cons, ih]; simp [GN, e]
 | cell e hl _ ih => rw [List.mapM_cons, ih]; simp [GN, e, hl]
theorem LQ {P : Program} {fr : Fr} {h : AD} {rs : List ResultVar} {v : AA} (r : Pv P fr h rs [v]) : KX P rs fr h = some v := by
 unfold KX; rw [r.mapM]
theorem CW {P : Program} {fr : Fr} {h : AD} {rs : List ResultVar} {v w : AA} {vs : List AA} (r : Pv P fr h rs (v :: w :: vs)) : KX P rs fr h = some (.tuple (v :: w :: vs)) := by
 unfold KX; rw [r.mapM]
theorem CL {P : Program} {h : AD} {t : TypeId} {a : Nat × Nat} {n : Nat} {cs : List AA} (ha : Hw P t = some true) (hn : Bq P t = some n) (hl : Eh h a n = some cs) : Fw P (h.get a.1) t a.2 = some (.agg cs) := by
 unfold Fw
 rw [ha, hn]
 unfold Eh at hl
 simp [hl]
section
variable {C : FY} {S : Self} {g : Gd} {h : AD} {fr : Fr} {op : Op}
def bW (P : Program) (fr : Fr) : Op → Option (List AA × Nat × Nat × Int × Bool)
 | .index t x i =>
  match P.underlying t, ev fr x, ev fr i with
  | some (.array n e), .agg cs, .int _ i =>
   match Hw P e, Bq P e with
   | some b, some z => some (cs, n, z, i, b)
   | _, _ => none
  | _, _, _ => none
 | _ => none
def Wf (P : Program) (t : TypeId) (xs ys : List AA) : Option Bool := if P.eqGuardType P.depth t = true then none else Fb P 10000 t (.agg xs) (.agg ys)
def Tw (fr : Fr) : Op → Option (Bool × TypeId × List AA × List AA)
 | .binOp op t x y _ =>
  match ev fr x, ev fr y, op with
  | .agg xs, .agg ys, .eql => some (true, t, xs, ys)
  | .agg xs, .agg ys, .neq => some (false, t, xs, ys)
  | _, _, _ => none
 | _ => none
theorem X8 {t : TypeId} {xs ys : List AA} {b : Bool} (hs : Tw fr op = some (true, t, xs, ys)) (hl : Wf C.P t xs ys = some b) : A0 C S g h fr op = some (.bool b, h) := by
 unfold Tw at hs
 split at hs
 ·split at hs
  ·rename_i hx hy
   simp only [Option.some.injEq, Prod.mk.injEq, true_and] at hs
   obtain ⟨rfl, rfl, rfl⟩ := hs
   unfold Wf at hl
   split at hl
   ·cases hl
   ·rename_i hg
    simp [A0, G3, As, Ha, Sa, SH, hx, hy, hg, hl]
  ·simp at hs
  ·cases hs
 ·cases hs
theorem Zw {t : TypeId} {xs ys : List AA} {b : Bool} (hs : Tw fr op = some (false, t, xs, ys)) (hl : Wf C.P t xs ys = some b) : A0 C S g h fr op = some (.bool !b, h) := by
 unfold Tw at hs
 split at hs
 ·split at hs
  ·simp at hs
  ·rename_i hx hy
   simp only [Option.some.injEq, Prod.mk.injEq, true_and] at hs
   obtain ⟨rfl, rfl, rfl⟩ := hs
   unfold Wf at hl
   split at hl
   ·cases hl
   ·rename_i hg
    simp [A0, G3, As, Ha, Sa, SH, hx, hy, hg, hl]
  ·cases hs
 ·cases hs
def ZE (h : AD) : Option Nat → Option (List (AA × AA))
 | none => some []
 | some id =>
  match h.get id with
  | some (.map st es) => if st ≠ 0 then some es else none
  | _ => none
def WR (P : Program) (h : AD) (t : TypeId) (m : Option Nat) (k : AA) : Option (AA × Bool) :=
 match P.underlying t with
 | some (.map kt et) =>
  if EE P 20 kt k = true then
   match ZE h m with
   | some es =>
    match CZ P kt k es 0 with
    | some (some (_, v)) => some (v, true)
    | some none => (Ga P et).map fun z => (z, false)
    | none => none
   | none => none
  else none
 | _ => none
def XB (fr : Fr) : Op → Option (TypeId × Option Nat × AA × Bool)
 | .lookup t x k ok =>
  match ev fr x with
  | .map m => some (t, m, ev fr k, ok)
  | _ => none
 | _ => none
theorem RG {P : Program} {h : AD} {t : TypeId} {m : Option Nat} {k v : AA} {b ok : Bool} (hl : WR P h t m k = some (v, b)) :
  ∃ ob, (∀ id, m = some id → h.get id = some ob) ∧ KJ P (m.map fun _ => ob) t (.map m) k ok = some (if ok then .tuple [v, .bool b] else v) := by
 unfold WR at hl
 split at hl
 ·rename_i kt et hu
  split at hl
  ·rename_i hk
   split at hl
   ·rename_i es he
    cases m with
    | none =>
     refine ⟨default, by simp, ?_⟩
     simp only [ZE, Option.some.injEq] at he
     subst he
     simp only [CZ] at hl
     unfold KJ
     simp only [hu, hk, if_true, CZ]
     cases hz : Ga P et with
     | none => rw [hz] at hl; simp at hl
     | some z =>
      rw [hz] at hl
      simp only [Option.map_some, Option.some.injEq, Prod.mk.injEq] at hl
      obtain ⟨rfl, rfl⟩ := hl
      rfl
    | some id =>
     simp only [ZE] at he
     split at he
     ·rename_i st es' hg
      split at he
      ·rename_i hst
       simp only [Option.some.injEq] at he
       subst he
       refine ⟨.map st es', fun i hi => by simp only [Option.some.injEq] at hi; subst hi; exact hg, ?_⟩
       unfold KJ
       simp only [hu, hk, if_true, Option.map_some, hst, ne_eq, not_false_eq_true]
       split at hl
       ·rename_i i w hf
        simp only [Option.some.injEq, Prod.mk.injEq] at hl
        obtain ⟨rfl, rfl⟩ := hl
        rw [hf]
       ·rename_i hf
        rw [hf]
        cases hz : Ga P et with
        | none => rw [hz] at hl; simp at hl
        | some z =>
         rw [hz] at hl
         simp only [Option.map_some, Option.some.injEq, Prod.mk.injEq] at hl
         obtain ⟨rfl, rfl⟩ := hl
         rfl
       ·cases hl
      ·cases he
     ·cases he
   ·cases hl
  ·cases hl
 ·cases hl
theorem ZM {t : TypeId} {m : Option Nat} {k v : AA} {b ok : Bool} (hs : XB fr op = some (t, m, k, ok)) (hl : WR C.P h t m k = some (v, b)) : A0 C S g h fr op = some (if ok then .tuple [v, .bool b] else v, h) := by
 unfold XB at hs
 split at hs
 ·split at hs
  ·rename_i ok' _ m' hx
   simp only [Option.some.injEq, Prod.mk.injEq] at hs
   obtain ⟨rfl, rfl, rfl, rfl⟩ := hs
   obtain ⟨ob, h1, h2⟩ := RG (ok := ok') hl
   cases hm : m' with
   | none =>
    subst hm
    simp only [Option.map_none] at h2
    simp [A0, G3, As, Ci, hx, Dn, JQ, h2]
   | some id =>
    subst hm
    simp only [Option.map_some] at h2
    simp [A0, G3, As, Ci, hx, Dn, JQ, h1 id rfl, h2]
  ·cases hs
 ·cases hs
theorem Fx {t : TypeId} {m : Option Nat} {k v : AA} {b : Bool} (hs : XB fr op = some (t, m, k, true)) (hl : WR C.P h t m k = some (v, b)) : A0 C S g h fr op = some (.tuple [v, .bool b], h) := ZM hs hl
theorem Xj {t : TypeId} {m : Option Nat} {k v : AA} {b : Bool} (hs : XB fr op = some (t, m, k, false)) (hl : WR C.P h t m k = some (v, b)) : A0 C S g h fr op = some (v, h) := ZM hs hl
def aQ (P : Program) (g : Gd) (h : AD) (t : TypeId) (m : Option Nat) (k v : AA) : Option AD := En P g h t (.map m) k v
def ZK (fr : Fr) : Op → Option (TypeId × Option Nat × AA × AA)
 | .mapUpdate t m k v | .insert t m k v =>
  match ev fr m with
  | .map m => some (t, m, ev fr k, ev fr v)
  | _ => none
 | _ => none
theorem Lx {t : TypeId} {m : Option Nat} {k v : AA} {h' : AD} (hs : ZK fr op = some (t, m, k, v)) (hl : aQ C.P g h t m k v = some h') : A0 C S g h fr op = some (.tuple [], h') := by
 unfold aQ at hl
 unfold ZK at hs
 split at hs
 ·split at hs
  ·rename_i hx
   simp only [Option.some.injEq, Prod.mk.injEq] at hs
   obtain ⟨rfl, rfl, rfl, rfl⟩ := hs
   simp [A0, G3, As, JP, hx, hl]
  ·cases hs
 ·split at hs
  ·rename_i hx
   simp only [Option.some.injEq, Prod.mk.injEq] at hs
   obtain ⟨rfl, rfl, rfl, rfl⟩ := hs
   simp [A0, G3, As, JP, hx, hl]
  ·cases hs
 ·cases hs
end
@[irreducible] def bn : Nat := 4611686018427387904
def cap {α β : Type} (as : AA → Option α) (rest : List AA → Option β) : List AA → Option (α × β)
 | v :: l => (as v).bind fun x => (rest l).map fun y => (x, y)
 | [] => none
end Go.Av
