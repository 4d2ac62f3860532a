/-
 A part.
-/
import Derived.Test.YtdbkpibbjnhmgaaDoorAvWalk
namespace Go.Av
set_option linter.unusedSimpArgs false
def JZ (l : List (Nat × List AA)) (g : Nat) : Option (List AA) :=
 match l with
 | [] => none
 | (i, cs) :: r => bif Nat.beq i g then some cs else JZ r g
def MU (l : List (Nat × AA)) (d : Nat) : Option AA :=
 match l with
 | [] => none
 | (i, v) :: r => bif Nat.beq i d then some v else MU r d
def Pm (l : List (Nat × AA)) (d : Nat) (w : AA) : List (Nat × AA) :=
 match l with
 | [] => []
 | (i, v) :: r => bif Nat.beq i d then (i, w) :: r else (i, v) :: Pm r d w
theorem KF {v : AA} {d : Nat} : ∀ {l : List (Nat × AA)}, MU l d = some v → (d, v) ∈ l
 | [], h => by cases h
 | (i, u) :: r, h => by
  unfold MU at h
  rw [FU] at h
  by_cases e : i = d
  ·rw [if_pos e] at h; injection h with h; rw [h, e]; simp
  ·rw [if_neg e] at h; exact List.mem_cons_of_mem _ (KF h)
theorem O1 {w : AA} {d : Nat} : ∀ {l : List (Nat × AA)} {p : Nat × AA}, p ∈ Pm l d w → p ∈ l ∨ p = (d, w)
 | [], p, h => by cases h
 | (i, u) :: r, p, h => by
  unfold Pm at h
  rw [FU] at h
  by_cases e : i = d
  ·rw [if_pos e] at h
   rcases List.mem_cons.1 h with h | h
   ·right; rw [h, e]
   ·left; exact List.mem_cons_of_mem _ h
  ·rw [if_neg e] at h
   rcases List.mem_cons.1 h with h | h
   ·left; rw [h]; simp
   ·rcases O1 h with h | h
    ·left; exact List.mem_cons_of_mem _ h
    ·right; exact h
theorem Has.Vg {fr : Fr} {N : Nat} {l : List (Nat × AA)} (H : Has fr N l) (d : Nat) {b w : Bool} (hb : b = w) (hd : MU l d = some (.bool b)) : Has fr N (Pm l d (.bool w)) := by
 subst hb
 refine ⟨H.1, fun p hp => ?_⟩
 rcases O1 hp with h | h
 ·exact H.2 p h
 ·rw [h]; exact H.2 _ (KF hd)
inductive N9 (P : Program) (fr : Fr) (h : AB) : List ResultVar → List AA → Prop where
 | nil : N9 P fr h [] []
 | tmp {t : Tmp} {v : AA} {rs : List ResultVar} {vs : List AA} (e : nth fr t = v) (r : N9 P fr h rs vs) : N9 P fr h (.tmp t :: rs) (v :: vs)
 | cell {a : Tmp} {t : TypeId} {p : Nat × Nat} {v : AA} {rs : List ResultVar} {vs : List AA} (e : nth fr a = .ptr (some p)) (hl : Ek P (h.get p.1) t p.2 = some v) (r : N9 P fr h rs vs) : N9 P fr h (.cell a t :: rs) (v :: vs)
theorem N9.mapM {P : Program} {fr : Fr} {h : AB} {rs : List ResultVar} {vs : List AA} (r : N9 P fr h rs vs) : rs.mapM (Et P fr h) = some vs := by
 induction r with
 | nil => rfl
 | tmp e _ ih => rw [List.mapM_cons, ih]; simp [Et, e]
 | cell e hl _ ih => rw [List.mapM_cons, ih]; simp [Et, e, hl]
theorem Jl {P : Program} {fr : Fr} {h : AB} {rs : List ResultVar} {v : AA} (r : N9 P fr h rs [v]) : Kq P rs fr h = some v := by
 unfold Kq; rw [r.mapM]
theorem K6 {P : Program} {h : AB} {t : TypeId} {a : Nat × Nat} {v : AA} (ha : Hd P t = some false) (hl : PK h a = some v) : Ek P (h.get a.1) t a.2 = some v := by
 unfold Ek
 rw [ha]
 exact hl
section
variable {C : EP} {S : Self} {g : Gd} {h : AB} {fr : Fr} {op : Op}
def Xq (P : Program) (fr : Fr) : Op → Option (List AA × Nat × Nat × Int × Bool)
 | .index t x i =>
  match P.underlying t, ev fr x, ev fr i with
  | some (.array n e), .agg cs, .int _ i =>
   match Hd P e, Bf P e with
   | some b, some z => some (cs, n, z, i, b)
   | _, _ => none
  | _, _, _ => none
 | _ => none
def WE (h : AB) : Option Nat → Option (List (AA × AA))
 | none => some []
 | some id =>
  match h.get id with
  | some (.map st es) => if st ≠ 0 then some es else none
  | _ => none
def Ug (P : Program) (h : AB) (t : TypeId) (m : Option Nat) (k : AA) : Option (AA × Bool) :=
 match P.underlying t with
 | some (.map kt et) =>
  if ES P 20 kt k = true then
   match WE h m with
   | some es =>
    match DN P kt k es 0 with
    | some (some (_, v)) => some (v, true)
    | some none => (Ec P et).map fun z => (z, false)
    | none => none
   | none => none
  else none
 | _ => none
def VE (fr : Fr) : Op → Option (TypeId × Option Nat × AA × Bool)
 | .lookup t x k ok =>
  match ev fr x with
  | .map m => some (t, m, ev fr k, ok)
  | _ => none
 | _ => none
theorem Om {P : Program} {h : AB} {t : TypeId} {m : Option Nat} {k v : AA} {b ok : Bool} (hl : Ug P h t m k = some (v, b)) :
  ∃ ob, (∀ id, m = some id → h.get id = some ob) ∧ Ia P (m.map fun _ => ob) t (.map m) k ok = some (if ok then .tuple [v, .bool b] else v) := by
 unfold Ug at hl
 split at hl
 ·rename_i kt et hu
  split at hl
  ·rename_i hk
   split at hl
   ·rename_i es he
    cases m with
    | none =>
     refine ⟨default, by simp, ?_⟩
     simp only [WE, Option.some.injEq] at he
     subst he
     simp only [DN] at hl
     unfold Ia
     simp only [hu, hk, if_true, DN]
     cases hz : Ec P et with
     | none => rw [hz] at hl; simp at hl
     | some z =>
      rw [hz] at hl
      simp only [Option.map_some, Option.some.injEq, Prod.mk.injEq] at hl
      obtain ⟨rfl, rfl⟩ := hl
      rfl
    | some id =>
     simp only [WE] at he
     split at he
     ·rename_i st es' hg
      split at he
      ·rename_i hst
       simp only [Option.some.injEq] at he
       subst he
       refine ⟨.map st es', fun i hi => by simp only [Option.some.injEq] at hi; subst hi; exact hg, ?_⟩
       unfold Ia
       simp only [hu, hk, if_true, Option.map_some, hst, ne_eq, not_false_eq_true]
       split at hl
       ·rename_i i w hf
        simp only [Option.some.injEq, Prod.mk.injEq] at hl
        obtain ⟨rfl, rfl⟩ := hl
        rw [hf]
       ·rename_i hf
        rw [hf]
        cases hz : Ec P et with
        | none => rw [hz] at hl; simp at hl
        | some z =>
         rw [hz] at hl
         simp only [Option.map_some, Option.some.injEq, Prod.mk.injEq] at hl
         obtain ⟨rfl, rfl⟩ := hl
         rfl
       ·cases hl
      ·cases he
     ·cases he
   ·cases hl
  ·cases hl
 ·cases hl
theorem XF {t : TypeId} {m : Option Nat} {k v : AA} {b ok : Bool} (hs : VE fr op = some (t, m, k, ok)) (hl : Ug C.P h t m k = some (v, b)) : Aw C S g h fr op = some (if ok then .tuple [v, .bool b] else v, h) := by
 unfold VE at hs
 split at hs
 ·split at hs
  ·rename_i ok' _ m' hx
   simp only [Option.some.injEq, Prod.mk.injEq] at hs
   obtain ⟨rfl, rfl, rfl, rfl⟩ := hs
   obtain ⟨ob, h1, h2⟩ := Om (ok := ok') hl
   cases hm : m' with
   | none =>
    subst hm
    simp only [Option.map_none] at h2
    simp [Aw, GA, AZ, CJ, hx, DD, HB, h2]
   | some id =>
    subst hm
    simp only [Option.map_some] at h2
    simp [Aw, GA, AZ, CJ, hx, DD, HB, h1 id rfl, h2]
  ·cases hs
 ·cases hs
theorem Io {t : TypeId} {m : Option Nat} {k v : AA} {b : Bool} (hs : VE fr op = some (t, m, k, false)) (hl : Ug C.P h t m k = some (v, b)) : Aw C S g h fr op = some (v, h) := XF hs hl
def V9 (P : Program) (g : Gd) (h : AB) (t : TypeId) (m : Option Nat) (k v : AA) : Option AB := EY P g h t (.map m) k v
def Wl (fr : Fr) : Op → Option (TypeId × Option Nat × AA × AA)
 | .mapUpdate t m k v | .insert t m k v =>
  match ev fr m with
  | .map m => some (t, m, ev fr k, ev fr v)
  | _ => none
 | _ => none
theorem WN {t : TypeId} {m : Option Nat} {k v : AA} {h' : AB} (hs : Wl fr op = some (t, m, k, v)) (hl : V9 C.P g h t m k v = some h') : Aw C S g h fr op = some (.tuple [], h') := by
 unfold V9 at hl
 unfold Wl at hs
 split at hs
 ·split at hs
  ·rename_i hx
   simp only [Option.some.injEq, Prod.mk.injEq] at hs
   obtain ⟨rfl, rfl, rfl, rfl⟩ := hs
   simp [Aw, GA, AZ, Gk, hx, hl]
  ·cases hs
 ·split at hs
  ·rename_i hx
   simp only [Option.some.injEq, Prod.mk.injEq] at hs
   obtain ⟨rfl, rfl, rfl, rfl⟩ := hs
   simp [Aw, GA, AZ, Gk, hx, hl]
  ·cases hs
 ·cases hs
end
@[irreducible] def KR : Nat := 4611686018427387904
def cap {α β : Type} (as : AA → Option α) (rest : List AA → Option β) : List AA → Option (α × β)
 | v :: l => (as v).bind fun x => (rest l).map fun y => (x, y)
 | [] => none
end Go.Av
