/-
 A part.
-/
import Derived.Test.YtdjbadhilkmiiaaGreatDoorAvWalk
namespace Go.Av
set_option linter.unusedSimpArgs false
def KC (l : List (Nat × List AB)) (g : Nat) : Option (List AB) :=
 match l with
 | [] => none
 | (i, cs) :: r => bif Nat.beq i g then some cs else KC r g
def PE (l : List (Nat × AB)) (d : Nat) : Option AB :=
 match l with
 | [] => none
 | (i, v) :: r => bif Nat.beq i d then some v else PE r d
def R9 (l : List (Nat × AB)) (d : Nat) (w : AB) : List (Nat × AB) :=
 match l with
 | [] => []
 | (i, v) :: r => bif Nat.beq i d then (i, w) :: r else (i, v) :: R9 r d w
theorem M1 {v : AB} {d : Nat} : ∀ {l : List (Nat × AB)}, PE l d = some v → (d, v) ∈ l
 | [], h => by cases h
 | (i, u) :: r, h => by
  unfold PE at h
  rw [H8] at h
  by_cases e : i = d
  ·rw [if_pos e] at h; injection h with h; rw [h, e]; simp
  ·rw [if_neg e] at h; exact List.mem_cons_of_mem _ (M1 h)
theorem RG {w : AB} {d : Nat} : ∀ {l : List (Nat × AB)} {p : Nat × AB}, p ∈ R9 l d w → p ∈ l ∨ p = (d, w)
 | [], p, h => by cases h
 | (i, u) :: r, p, h => by
  unfold R9 at h
  rw [H8] at h
  by_cases e : i = d
  ·rw [if_pos e] at h
   rcases List.mem_cons.1 h with h | h
   ·right; rw [h, e]
   ·left; exact List.mem_cons_of_mem _ h
  ·rw [if_neg e] at h
   rcases List.mem_cons.1 h with h | h
   ·left; rw [h]; simp
   ·rcases RG h with h | h
    ·left; exact List.mem_cons_of_mem _ h
    ·right; exact h
theorem Has.Vi {fr : Fr} {N : Nat} {l : List (Nat × AB)} (H : Has fr N l) (d : Nat) {b w : Bool} (hb : b = w) (hd : PE l d = some (.bool b)) : Has fr N (R9 l d (.bool w)) := by
 subst hb
 refine ⟨H.1, fun p hp => ?_⟩
 rcases RG hp with h | h
 ·exact H.2 p h
 ·rw [h]; exact H.2 _ (M1 hd)
inductive QG (P : Program) (fr : Fr) (h : AJ) : List ResultVar → List AB → Prop where
 | nil : QG P fr h [] []
 | tmp {t : Tmp} {v : AB} {rs : List ResultVar} {vs : List AB} (e : nth fr t = v) (r : QG P fr h rs vs) : QG P fr h (.tmp t :: rs) (v :: vs)
 | cell {a : Tmp} {t : TypeId} {p : Nat × Nat} {v : AB} {rs : List ResultVar} {vs : List AB} (e : nth fr a = .ptr (some p)) (hl : Gb P (h.get p.1) t p.2 = some v) (r : QG P fr h rs vs) : QG P fr h (.cell a t :: rs) (v :: vs)
theorem QG.mapM {P : Program} {fr : Fr} {h : AJ} {rs : List ResultVar} {vs : List AB} (r : QG P fr h rs vs) : rs.mapM (HR P fr h) = some vs := by
 induction r with
 | nil => rfl
 | tmp e _ ih => rw [List.mapM_cons, ih]; simp [HR, e]
 | cell e hl _ ih => rw [List.mapM_cons, ih]; simp [HR, e, hl]
theorem CS {P : Program} {fr : Fr} {h : AJ} {rs : List ResultVar} {v : AB} (r : QG P fr h rs [v]) : LL P rs fr h = some v := by
 unfold LL; rw [r.mapM]
theorem B8 {P : Program} {fr : Fr} {h : AJ} {rs : List ResultVar} {v w : AB} {vs : List AB} (r : QG P fr h rs (v :: w :: vs)) : LL P rs fr h = some (.tuple (v :: w :: vs)) := by
 unfold LL; rw [r.mapM]
theorem SM {P : Program} {h : AJ} {t : TypeId} {a : Nat × Nat} {v : AB} (ha : Jt P t = some false) (hl : Ni h a = some v) : Gb P (h.get a.1) t a.2 = some v := by
 unfold Gb
 rw [ha]
 exact hl
theorem BL {P : Program} {h : AJ} {t : TypeId} {a : Nat × Nat} {n : Nat} {cs : List AB} (ha : Jt P t = some true) (hn : DD P t = some n) (hl : F5 h a n = some cs) : Gb P (h.get a.1) t a.2 = some (.agg cs) := by
 unfold Gb
 rw [ha, hn]
 unfold F5 at hl
 simp [hl]
section
variable {C : HS} {S : Self} {g : Gd} {h : AJ} {fr : Fr} {op : Op}
def Xx (P : Program) (fr : Fr) : Op → Option (List AB × Nat × Nat × Int × Bool)
 | .index t x i =>
  match P.underlying t, ev fr x, ev fr i with
  | some (.array n e), .agg cs, .int _ i =>
   match Jt P e, DD P e with
   | some b, some z => some (cs, n, z, i, b)
   | _, _ => none
  | _, _, _ => none
 | _ => none
def Xn (P : Program) (t : TypeId) (xs ys : List AB) : Option Bool := if P.eqGuardType P.depth t = true then none else IG P 10000 t (.agg xs) (.agg ys)
def VT (fr : Fr) : Op → Option (Bool × TypeId × List AB × List AB)
 | .binOp op t x y _ =>
  match ev fr x, ev fr y, op with
  | .agg xs, .agg ys, .eql => some (true, t, xs, ys)
  | .agg xs, .agg ys, .neq => some (false, t, xs, ys)
  | _, _, _ => none
 | _ => none
theorem Wb {t : TypeId} {xs ys : List AB} {b : Bool} (hs : VT fr op = some (false, t, xs, ys)) (hl : Xn C.P t xs ys = some b) : Bs C S g h fr op = some (.bool !b, h) := by
 unfold VT at hs
 split at hs
 ·split at hs
  ·simp at hs
  ·rename_i hx hy
   simp only [Option.some.injEq, Prod.mk.injEq, true_and] at hs
   obtain ⟨rfl, rfl, rfl⟩ := hs
   unfold Xn at hl
   split at hl
   ·cases hl
   ·rename_i hg
    simp [Bs, Iw, BX, Iz, Rl, Rr, hx, hy, hg, hl]
  ·cases hs
 ·cases hs
def Ui (h : AJ) : Option Nat → Option (List (AB × AB))
 | none => some []
 | some id =>
  match h.get id with
  | some (.map st es) => if st ≠ 0 then some es else none
  | _ => none
def S3 (P : Program) (h : AJ) (t : TypeId) (m : Option Nat) (k : AB) : Option (AB × Bool) :=
 match P.underlying t with
 | some (.map kt et) =>
  if FQ P 20 kt k = true then
   match Ui h m with
   | some es =>
    match DE P kt k es 0 with
    | some (some (_, v)) => some (v, true)
    | some none => (HA P et).map fun z => (z, false)
    | none => none
   | none => none
  else none
 | _ => none
def Um (fr : Fr) : Op → Option (TypeId × Option Nat × AB × Bool)
 | .lookup t x k ok =>
  match ev fr x with
  | .map m => some (t, m, ev fr k, ok)
  | _ => none
 | _ => none
theorem QQ {P : Program} {h : AJ} {t : TypeId} {m : Option Nat} {k v : AB} {b ok : Bool} (hl : S3 P h t m k = some (v, b)) :
  ∃ ob, (∀ id, m = some id → h.get id = some ob) ∧ LF P (m.map fun _ => ob) t (.map m) k ok = some (if ok then .tuple [v, .bool b] else v) := by
 unfold S3 at hl
 split at hl
 ·rename_i kt et hu
  split at hl
  ·rename_i hk
   split at hl
   ·rename_i es he
    cases m with
    | none =>
     refine ⟨default, by simp, ?_⟩
     simp only [Ui, Option.some.injEq] at he
     subst he
     simp only [DE] at hl
     unfold LF
     simp only [hu, hk, if_true, DE]
     cases hz : HA P et with
     | none => rw [hz] at hl; simp at hl
     | some z =>
      rw [hz] at hl
      simp only [Option.map_some, Option.some.injEq, Prod.mk.injEq] at hl
      obtain ⟨rfl, rfl⟩ := hl
      rfl
    | some id =>
     simp only [Ui] at he
     split at he
     ·rename_i st es' hg
      split at he
      ·rename_i hst
       simp only [Option.some.injEq] at he
       subst he
       refine ⟨.map st es', fun i hi => by simp only [Option.some.injEq] at hi; subst hi; exact hg, ?_⟩
       unfold LF
       simp only [hu, hk, if_true, Option.map_some, hst, ne_eq, not_false_eq_true]
       split at hl
       ·rename_i i w hf
        simp only [Option.some.injEq, Prod.mk.injEq] at hl
        obtain ⟨rfl, rfl⟩ := hl
        rw [hf]
       ·rename_i hf
        rw [hf]
        cases hz : HA P et with
        | none => rw [hz] at hl; simp at hl
        | some z =>
         rw [hz] at hl
         simp only [Option.map_some, Option.some.injEq, Prod.mk.injEq] at hl
         obtain ⟨rfl, rfl⟩ := hl
         rfl
       ·cases hl
      ·cases he
     ·cases he
   ·cases hl
  ·cases hl
 ·cases hl
theorem Wp {t : TypeId} {m : Option Nat} {k v : AB} {b ok : Bool} (hs : Um fr op = some (t, m, k, ok)) (hl : S3 C.P h t m k = some (v, b)) : Bs C S g h fr op = some (if ok then .tuple [v, .bool b] else v, h) := by
 unfold Um at hs
 split at hs
 ·split at hs
  ·rename_i ok' _ m' hx
   simp only [Option.some.injEq, Prod.mk.injEq] at hs
   obtain ⟨rfl, rfl, rfl, rfl⟩ := hs
   obtain ⟨ob, h1, h2⟩ := QQ (ok := ok') hl
   cases hm : m' with
   | none =>
    subst hm
    simp only [Option.map_none] at h2
    simp [Bs, Iw, BX, Dw, hx, FE, KK, h2]
   | some id =>
    subst hm
    simp only [Option.map_some] at h2
    simp [Bs, Iw, BX, Dw, hx, FE, KK, h1 id rfl, h2]
  ·cases hs
 ·cases hs
theorem RE {t : TypeId} {m : Option Nat} {k v : AB} {b : Bool} (hs : Um fr op = some (t, m, k, true)) (hl : S3 C.P h t m k = some (v, b)) : Bs C S g h fr op = some (.tuple [v, .bool b], h) := Wp hs hl
theorem VX {t : TypeId} {m : Option Nat} {k v : AB} {b : Bool} (hs : Um fr op = some (t, m, k, false)) (hl : S3 C.P h t m k = some (v, b)) : Bs C S g h fr op = some (v, h) := Wp hs hl
def WU (P : Program) (g : Gd) (h : AJ) (t : TypeId) (m : Option Nat) (k v : AB) : Option AJ := GN P g h t (.map m) k v
def Wu (fr : Fr) : Op → Option (TypeId × Option Nat × AB × AB)
 | .mapUpdate t m k v | .insert t m k v =>
  match ev fr m with
  | .map m => some (t, m, ev fr k, ev fr v)
  | _ => none
 | _ => none
theorem S8 {t : TypeId} {m : Option Nat} {k v : AB} {h' : AJ} (hs : Wu fr op = some (t, m, k, v)) (hl : WU C.P g h t m k v = some h') : Bs C S g h fr op = some (.tuple [], h') := by
 unfold WU at hl
 unfold Wu at hs
 split at hs
 ·split at hs
  ·rename_i hx
   simp only [Option.some.injEq, Prod.mk.injEq] at hs
   obtain ⟨rfl, rfl, rfl, rfl⟩ := hs
   simp [Bs, Iw, BX, KJ, hx, hl]
  ·cases hs
 ·split at hs
  ·rename_i hx
   simp only [Option.some.injEq, Prod.mk.injEq] at hs
   obtain ⟨rfl, rfl, rfl, rfl⟩ := hs
   simp [Bs, Iw, BX, KJ, hx, hl]
  ·cases hs
 ·cases hs
def XQ (h : AJ) (m : Option Nat) : Option Int := (Ui h m).map fun es => (es.length : Int)
def UK (P : Program) (fr : Fr) : Op → Option (Option Nat)
 | .call { callee := .builtin .len, args := as, argTypes := ts } =>
  match as.toList, ts[0]? with
  | [x], some t =>
   match P.underlying t, ev fr x with
   | some (.map _ _), .map m => some m
   | _, _ => none
  | _, _ => none
 | _ => none
end
@[irreducible] def YH : Nat := 4611686018427387904
def cap {α β : Type} (as : AB → Option α) (rest : List AB → Option β) : List AB → Option (α × β)
 | v :: l => (as v).bind fun x => (rest l).map fun y => (x, y)
 | [] => none
end Go.Av
