/-
 A part.
-/
import Derived.Test.YtlljeoogceblmaaGreatDoorAvWalk
namespace Go.Av
set_option linter.unusedSimpArgs false
def Jq (l : List (Nat × List AB)) (g : Nat) : Option (List AB) :=
 match l with
 | [] => none
 | (i, cs) :: r => bif Nat.beq i g then some cs else Jq r g
def PF (l : List (Nat × AB)) (d : Nat) : Option AB :=
 match l with
 | [] => none
 | (i, v) :: r => bif Nat.beq i d then some v else PF r d
def Nd (l : List (Nat × AB)) (d : Nat) (w : AB) : List (Nat × AB) :=
 match l with
 | [] => []
 | (i, v) :: r => bif Nat.beq i d then (i, w) :: r else (i, v) :: Nd r d w
theorem MQ {v : AB} {d : Nat} : ∀ {l : List (Nat × AB)}, PF l d = some v → (d, v) ∈ l
 | [], h => by cases h
 | (i, u) :: r, h => by
  unfold PF at h
  rw [G6] at h
  by_cases e : i = d
  ·rw [if_pos e] at h; injection h with h; rw [h, e]; simp
  ·rw [if_neg e] at h; exact List.mem_cons_of_mem _ (MQ h)
theorem Qk {w : AB} {d : Nat} : ∀ {l : List (Nat × AB)} {p : Nat × AB}, p ∈ Nd l d w → p ∈ l ∨ p = (d, w)
 | [], p, h => by cases h
 | (i, u) :: r, p, h => by
  unfold Nd at h
  rw [G6] at h
  by_cases e : i = d
  ·rw [if_pos e] at h
   rcases List.mem_cons.1 h with h | h
   ·right; rw [h, e]
   ·left; exact List.mem_cons_of_mem _ h
  ·rw [if_neg e] at h
   rcases List.mem_cons.1 h with h | h
   ·left; rw [h]; simp
   ·rcases Qk h with h | h
    ·left; exact List.mem_cons_of_mem _ h
    ·right; exact h
theorem Has.XO {fr : Fr} {N : Nat} {l : List (Nat × AB)} (H : Has fr N l) (d : Nat) {b w : Bool} (hb : b = w) (hd : PF l d = some (.bool b)) : Has fr N (Nd l d (.bool w)) := by
 subst hb
 refine ⟨H.1, fun p hp => ?_⟩
 rcases Qk hp with h | h
 ·exact H.2 p h
 ·rw [h]; exact H.2 _ (MQ hd)
inductive Pk (P : Program) (fr : Fr) (h : AF) : List ResultVar → List AB → Prop where
 | nil : Pk P fr h [] []
 | tmp {t : Tmp} {v : AB} {rs : List ResultVar} {vs : List AB} (e : nth fr t = v) (r : Pk P fr h rs vs) : Pk P fr h (.tmp t :: rs) (v :: vs)
 | cell {a : Tmp} {t : TypeId} {p : Nat × Nat} {v : AB} {rs : List ResultVar} {vs : List AB} (e : nth fr a = .ptr (some p)) (B : GH P (h.get p.1) t p.2 = some v) (r : Pk P fr h rs vs) : Pk P fr h (.cell a t :: rs) (v :: vs)
theorem Pk.mapM {P : Program} {fr : Fr} {h : AF} {rs : List ResultVar} {vs : List AB} (r : Pk P fr h rs vs) : rs.mapM (GS P fr h) = some vs := by
 induction r with
 | nil => rfl
 | tmp e _ ih => rw [List.mapM_cons, ih]; simp [GS, e]
 | cell e B _ ih => rw [List.mapM_cons, ih]; simp [GS, e, B]
theorem P9 {P : Program} {fr : Fr} {h : AF} {rs : List ResultVar} {v : AB} (r : Pk P fr h rs [v]) : Jd P rs fr h = some v := by
 unfold Jd; rw [r.mapM]
theorem Dm {P : Program} {fr : Fr} {h : AF} {rs : List ResultVar} {v w : AB} {vs : List AB} (r : Pk P fr h rs (v :: w :: vs)) : Jd P rs fr h = some (.tuple (v :: w :: vs)) := by
 unfold Jd; rw [r.mapM]
theorem Dn {P : Program} {h : AF} {t : TypeId} {a : Nat × Nat} {n : Nat} {cs : List AB} (ha : Ig P t = some true) (hn : CQ P t = some n) (B : Ef h a n = some cs) : GH P (h.get a.1) t a.2 = some (.agg cs) := by
 unfold GH
 rw [ha, hn]
 unfold Ef at B
 simp [B]
section
variable {C : E8} {S : Self} {g : Gd} {h : AF} {fr : Fr} {op : Op}
def Za (P : Program) (fr : Fr) : Op → Option (List AB × Nat × Nat × Int × Bool)
 | .index t x i =>
  match P.underlying t, ev fr x, ev fr i with
  | some (.array n e), .agg cs, .int _ i =>
   match Ig P e, CQ P e with
   | some b, some z => some (cs, n, z, i, b)
   | _, _ => none
  | _, _, _ => none
 | _ => none
def XU (h : AF) : Option Nat → Option (List (AB × AB))
 | none => some []
 | some id =>
  match h.get id with
  | some (.map st es) => if st ≠ 0 then some es else none
  | _ => none
def T3 (P : Program) (h : AF) (t : TypeId) (m : Option Nat) (k : AB) : Option (AB × Bool) :=
 match P.underlying t with
 | some (.map kt et) =>
  if Ed P 20 kt k = true then
   match XU h m with
   | some es =>
    match DG P kt k es 0 with
    | some (some (_, v)) => some (v, true)
    | some none => (Fm P et).map fun z => (z, false)
    | none => none
   | none => none
  else none
 | _ => none
def Vv (fr : Fr) : Op → Option (TypeId × Option Nat × AB × Bool)
 | .lookup t x k ok =>
  match ev fr x with
  | .map m => some (t, m, ev fr k, ok)
  | _ => none
 | _ => none
theorem QS {P : Program} {h : AF} {t : TypeId} {m : Option Nat} {k v : AB} {b ok : Bool} (B : T3 P h t m k = some (v, b)) :
  ∃ ob, (∀ id, m = some id → h.get id = some ob) ∧ KU P (m.map fun _ => ob) t (.map m) k ok = some (if ok then .tuple [v, .bool b] else v) := by
 unfold T3 at B
 split at B
 ·rename_i kt et hu
  split at B
  ·rename_i hk
   split at B
   ·rename_i es he
    cases m with
    | none =>
     refine ⟨default, by simp, ?_⟩
     simp only [XU, Option.some.injEq] at he
     subst he
     simp only [DG] at B
     unfold KU
     simp only [hu, hk, if_true, DG]
     cases F : Fm P et with
     | none => rw [F] at B; simp at B
     | some z =>
      rw [F] at B
      simp only [Option.map_some, Option.some.injEq, Prod.mk.injEq] at B
      obtain ⟨rfl, rfl⟩ := B
      rfl
    | some id =>
     simp only [XU] at he
     split at he
     ·rename_i st es' hg
      split at he
      ·rename_i hst
       simp only [Option.some.injEq] at he
       subst he
       refine ⟨.map st es', fun i hi => by simp only [Option.some.injEq] at hi; subst hi; exact hg, ?_⟩
       unfold KU
       simp only [hu, hk, if_true, Option.map_some, hst, ne_eq, not_false_eq_true]
       split at B
       ·rename_i i w G
        simp only [Option.some.injEq, Prod.mk.injEq] at B
        obtain ⟨rfl, rfl⟩ := B
        rw [G]
       ·rename_i G
        rw [G]
        cases F : Fm P et with
        | none => rw [F] at B; simp at B
        | some z =>
         rw [F] at B
         simp only [Option.map_some, Option.some.injEq, Prod.mk.injEq] at B
         obtain ⟨rfl, rfl⟩ := B
         rfl
       ·cases B
      ·cases he
     ·cases he
   ·cases B
  ·cases B
 ·cases B
theorem X9 {t : TypeId} {m : Option Nat} {k v : AB} {b ok : Bool} (D : Vv fr op = some (t, m, k, ok)) (B : T3 C.P h t m k = some (v, b)) : BO C S g h fr op = some (if ok then .tuple [v, .bool b] else v, h) := by
 unfold Vv at D
 split at D
 ·split at D
  ·rename_i ok' _ m' E
   simp only [Option.some.injEq, Prod.mk.injEq] at D
   obtain ⟨rfl, rfl, rfl, rfl⟩ := D
   obtain ⟨ob, h1, h2⟩ := QS (ok := ok') B
   cases hm : m' with
   | none =>
    subst hm
    simp only [Option.map_none] at h2
    simp [BO, Gp, BA, Cq, E, Dd, Ih, h2]
   | some id =>
    subst hm
    simp only [Option.map_some] at h2
    simp [BO, Gp, BA, Cq, E, Dd, Ih, h1 id rfl, h2]
  ·cases D
 ·cases D
theorem GG {t : TypeId} {m : Option Nat} {k v : AB} {b : Bool} (D : Vv fr op = some (t, m, k, true)) (B : T3 C.P h t m k = some (v, b)) : BO C S g h fr op = some (.tuple [v, .bool b], h) := X9 D B
theorem V6 {t : TypeId} {m : Option Nat} {k v : AB} {b : Bool} (D : Vv fr op = some (t, m, k, false)) (B : T3 C.P h t m k = some (v, b)) : BO C S g h fr op = some (v, h) := X9 D B
def Yd (P : Program) (g : Gd) (h : AF) (t : TypeId) (m : Option Nat) (k v : AB) : Option AF := E3 P g h t (.map m) k v
def Xw (fr : Fr) : Op → Option (TypeId × Option Nat × AB × AB)
 | .mapUpdate t m k v | .insert t m k v =>
  match ev fr m with
  | .map m => some (t, m, ev fr k, ev fr v)
  | _ => none
 | _ => none
theorem MR {t : TypeId} {m : Option Nat} {k v : AB} {h' : AF} (D : Xw fr op = some (t, m, k, v)) (B : Yd C.P g h t m k v = some h') : BO C S g h fr op = some (.tuple [], h') := by
 unfold Yd at B
 unfold Xw at D
 split at D
 ·split at D
  ·rename_i E
   simp only [Option.some.injEq, Prod.mk.injEq] at D
   obtain ⟨rfl, rfl, rfl, rfl⟩ := D
   simp [BO, Gp, BA, Ji, E, B]
  ·cases D
 ·split at D
  ·rename_i E
   simp only [Option.some.injEq, Prod.mk.injEq] at D
   obtain ⟨rfl, rfl, rfl, rfl⟩ := D
   simp [BO, Gp, BA, Ji, E, B]
  ·cases D
 ·cases D
end
@[irreducible] def Zw : Nat := 4611686018427387904
def cap {α β : Type} (as : AB → Option α) (rest : List AB → Option β) : List AB → Option (α × β)
 | v :: l => (as v).bind fun x => (rest l).map fun y => (x, y)
 | [] => none
end Go.Av
