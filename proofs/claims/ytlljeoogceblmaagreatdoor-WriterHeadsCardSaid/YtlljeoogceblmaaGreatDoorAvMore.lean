/-
 A part.
-/
import Derived.Test.YtlljeoogceblmaaGreatDoorAvWalk
namespace Go.Av
set_option linter.unusedSimpArgs false
def J4 (l : List (Nat × List AB)) (g : Nat) : Option (List AB) :=
 match l with
 | [] => none
 | (i, cs) :: r => bif Nat.beq i g then some cs else J4 r g
def PJ (l : List (Nat × AB)) (d : Nat) : Option AB :=
 match l with
 | [] => none
 | (i, v) :: r => bif Nat.beq i d then some v else PJ r d
def OI (l : List (Nat × AB)) (d : Nat) (w : AB) : List (Nat × AB) :=
 match l with
 | [] => []
 | (i, v) :: r => bif Nat.beq i d then (i, w) :: r else (i, v) :: OI r d w
theorem My {v : AB} {d : Nat} : ∀ {l : List (Nat × AB)}, PJ l d = some v → (d, v) ∈ l
 | [], h => by cases h
 | (i, u) :: r, h => by
  unfold PJ at h
  rw [HP] at h
  by_cases e : i = d
  ·rw [if_pos e] at h; injection h with h; rw [h, e]; simp
  ·rw [if_neg e] at h; exact List.mem_cons_of_mem _ (My h)
theorem Rs {w : AB} {d : Nat} : ∀ {l : List (Nat × AB)} {p : Nat × AB}, p ∈ OI l d w → p ∈ l ∨ p = (d, w)
 | [], p, h => by cases h
 | (i, u) :: r, p, h => by
  unfold OI at h
  rw [HP] at h
  by_cases e : i = d
  ·rw [if_pos e] at h
   rcases List.mem_cons.1 h with h | h
   ·right; rw [h, e]
   ·left; exact List.mem_cons_of_mem _ h
  ·rw [if_neg e] at h
   rcases List.mem_cons.1 h with h | h
   ·left; rw [h]; simp
   ·rcases Rs h with h | h
    ·left; exact List.mem_cons_of_mem _ h
    ·right; exact h
theorem Has.Ys {fr : Fr} {N : Nat} {l : List (Nat × AB)} (H : Has fr N l) (d : Nat) {b w : Bool} (hb : b = w) (hd : PJ l d = some (.bool b)) : Has fr N (OI l d (.bool w)) := by
 subst hb
 refine ⟨H.1, fun p hp => ?_⟩
 rcases Rs hp with h | h
 ·exact H.2 p h
 ·rw [h]; exact H.2 _ (My hd)
inductive QM (P : Program) (fr : Fr) (h : AD) : List ResultVar → List AB → Prop where
 | nil : QM P fr h [] []
 | tmp {t : Tmp} {v : AB} {rs : List ResultVar} {vs : List AB} (e : nth fr t = v) (r : QM P fr h rs vs) : QM P fr h (.tmp t :: rs) (v :: vs)
 | cell {a : Tmp} {t : TypeId} {p : Nat × Nat} {v : AB} {rs : List ResultVar} {vs : List AB} (e : nth fr a = .ptr (some p)) (hl : Gc P (h.get p.1) t p.2 = some v) (r : QM P fr h rs vs) : QM P fr h (.cell a t :: rs) (v :: vs)
theorem QM.mapM {P : Program} {fr : Fr} {h : AD} {rs : List ResultVar} {vs : List AB} (r : QM P fr h rs vs) : rs.mapM (Gv P fr h) = some vs := by
 induction r with
 | nil => rfl
 | tmp e _ ih => rw [List.mapM_cons, ih]; simp [Gv, e]
 | cell e hl _ ih => rw [List.mapM_cons, ih]; simp [Gv, e, hl]
theorem L1 {P : Program} {fr : Fr} {h : AD} {rs : List ResultVar} {v : AB} (r : QM P fr h rs [v]) : Ma P rs fr h = some v := by
 unfold Ma; rw [r.mapM]
theorem DV {P : Program} {fr : Fr} {h : AD} {rs : List ResultVar} {v w : AB} {vs : List AB} (r : QM P fr h rs (v :: w :: vs)) : Ma P rs fr h = some (.tuple (v :: w :: vs)) := by
 unfold Ma; rw [r.mapM]
theorem C7 {P : Program} {h : AD} {t : TypeId} {a : Nat × Nat} {n : Nat} {cs : List AB} (ha : Iu P t = some true) (hn : CE P t = some n) (hl : ET h a n = some cs) : Gc P (h.get a.1) t a.2 = some (.agg cs) := by
 unfold Gc
 rw [ha, hn]
 unfold ET at hl
 simp [hl]
section
variable {C : Ft} {S : Self} {g : Gd} {h : AD} {fr : Fr} {op : Op}
def ax (P : Program) (fr : Fr) : Op → Option (List AB × Nat × Nat × Int × Bool)
 | .index t x i =>
  match P.underlying t, ev fr x, ev fr i with
  | some (.array n e), .agg cs, .int _ i =>
   match Iu P e, CE P e with
   | some b, some z => some (cs, n, z, i, b)
   | _, _ => none
  | _, _, _ => none
 | _ => none
def Z4 (h : AD) : Option Nat → Option (List (AB × AB))
 | none => some []
 | some id =>
  match h.get id with
  | some (.map st es) => if st ≠ 0 then some es else none
  | _ => none
def YI (P : Program) (h : AD) (t : TypeId) (m : Option Nat) (k : AB) : Option (AB × Bool) :=
 match P.underlying t with
 | some (.map kt et) =>
  if En P 20 kt k = true then
   match Z4 h m with
   | some es =>
    match C1 P kt k es 0 with
    | some (some (_, v)) => some (v, true)
    | some none => (Hh P et).map fun z => (z, false)
    | none => none
   | none => none
  else none
 | _ => none
def Yo (fr : Fr) : Op → Option (TypeId × Option Nat × AB × Bool)
 | .lookup t x k ok =>
  match ev fr x with
  | .map m => some (t, m, ev fr k, ok)
  | _ => none
 | _ => none
theorem Ry {P : Program} {h : AD} {t : TypeId} {m : Option Nat} {k v : AB} {b ok : Bool} (hl : YI P h t m k = some (v, b)) :
  ∃ ob, (∀ id, m = some id → h.get id = some ob) ∧ Ks P (m.map fun _ => ob) t (.map m) k ok = some (if ok then .tuple [v, .bool b] else v) := by
 unfold YI at hl
 split at hl
 ·rename_i kt et hu
  split at hl
  ·rename_i hk
   split at hl
   ·rename_i es he
    cases m with
    | none =>
     refine ⟨default, by simp, ?_⟩
     simp only [Z4, Option.some.injEq] at he
     subst he
     simp only [C1] at hl
     unfold Ks
     simp only [hu, hk, if_true, C1]
     cases hz : Hh P et with
     | none => rw [hz] at hl; simp at hl
     | some z =>
      rw [hz] at hl
      simp only [Option.map_some, Option.some.injEq, Prod.mk.injEq] at hl
      obtain ⟨rfl, rfl⟩ := hl
      rfl
    | some id =>
     simp only [Z4] at he
     split at he
     ·rename_i st es' hg
      split at he
      ·rename_i hst
       simp only [Option.some.injEq] at he
       subst he
       refine ⟨.map st es', fun i hi => by simp only [Option.some.injEq] at hi; subst hi; exact hg, ?_⟩
       unfold Ks
       simp only [hu, hk, if_true, Option.map_some, hst, ne_eq, not_false_eq_true]
       split at hl
       ·rename_i i w hf
        simp only [Option.some.injEq, Prod.mk.injEq] at hl
        obtain ⟨rfl, rfl⟩ := hl
        rw [hf]
       ·rename_i hf
        rw [hf]
        cases hz : Hh P et with
        | none => rw [hz] at hl; simp at hl
        | some z =>
         rw [hz] at hl
         simp only [Option.map_some, Option.some.injEq, Prod.mk.injEq] at hl
         obtain ⟨rfl, rfl⟩ := hl
         rfl
       ·cases hl
      ·cases he
     ·cases he
   ·cases hl
  ·cases hl
 ·cases hl
theorem aY {t : TypeId} {m : Option Nat} {k v : AB} {b ok : Bool} (hs : Yo fr op = some (t, m, k, ok)) (hl : YI C.P h t m k = some (v, b)) : A7 C S g h fr op = some (if ok then .tuple [v, .bool b] else v, h) := by
 unfold Yo at hs
 split at hs
 ·split at hs
  ·rename_i ok' _ m' hx
   simp only [Option.some.injEq, Prod.mk.injEq] at hs
   obtain ⟨rfl, rfl, rfl, rfl⟩ := hs
   obtain ⟨ob, h1, h2⟩ := Ry (ok := ok') hl
   cases hm : m' with
   | none =>
    subst hm
    simp only [Option.map_none] at h2
    simp [A7, HR, As, C3, hx, EI, Jn, h2]
   | some id =>
    subst hm
    simp only [Option.map_some] at h2
    simp [A7, HR, As, C3, hx, EI, Jn, h1 id rfl, h2]
  ·cases hs
 ·cases hs
theorem L5 {t : TypeId} {m : Option Nat} {k v : AB} {b : Bool} (hs : Yo fr op = some (t, m, k, true)) (hl : YI C.P h t m k = some (v, b)) : A7 C S g h fr op = some (.tuple [v, .bool b], h) := aY hs hl
def aJ (P : Program) (g : Gd) (h : AD) (t : TypeId) (m : Option Nat) (k v : AB) : Option AD := FJ P g h t (.map m) k v
def Zo (fr : Fr) : Op → Option (TypeId × Option Nat × AB × AB)
 | .mapUpdate t m k v | .insert t m k v =>
  match ev fr m with
  | .map m => some (t, m, ev fr k, ev fr v)
  | _ => none
 | _ => none
theorem NZ {t : TypeId} {m : Option Nat} {k v : AB} {h' : AD} (hs : Zo fr op = some (t, m, k, v)) (hl : aJ C.P g h t m k v = some h') : A7 C S g h fr op = some (.tuple [], h') := by
 unfold aJ at hl
 unfold Zo at hs
 split at hs
 ·split at hs
  ·rename_i hx
   simp only [Option.some.injEq, Prod.mk.injEq] at hs
   obtain ⟨rfl, rfl, rfl, rfl⟩ := hs
   simp [A7, HR, As, Jw, hx, hl]
  ·cases hs
 ·split at hs
  ·rename_i hx
   simp only [Option.some.injEq, Prod.mk.injEq] at hs
   obtain ⟨rfl, rfl, rfl, rfl⟩ := hs
   simp [A7, HR, As, Jw, hx, hl]
  ·cases hs
 ·cases hs
end
@[irreducible] def Ve : Nat := 4611686018427387904
theorem XK : Ve = 4611686018427387904 := by unfold Ve; rfl
def cap {α β : Type} (as : AB → Option α) (rest : List AB → Option β) : List AB → Option (α × β)
 | v :: l => (as v).bind fun x => (rest l).map fun y => (x, y)
 | [] => none
end Go.Av
