/-
 A part.
-/
import Derived.Test.YtdbkpibbjnhmgaaDoorAvWalk
namespace Go.Av
set_option linter.unusedSimpArgs false
def Jm (l : List (Nat × List AA)) (g : Nat) : Option (List AA) :=
 match l with
 | [] => none
 | (i, cs) :: r => bif Nat.beq i g then some cs else Jm r g
def MS (l : List (Nat × AA)) (d : Nat) : Option AA :=
 match l with
 | [] => none
 | (i, v) :: r => bif Nat.beq i d then some v else MS r d
def O4 (l : List (Nat × AA)) (d : Nat) (w : AA) : List (Nat × AA) :=
 match l with
 | [] => []
 | (i, v) :: r => bif Nat.beq i d then (i, w) :: r else (i, v) :: O4 r d w
theorem J2 {v : AA} {d : Nat} : ∀ {l : List (Nat × AA)}, MS l d = some v → (d, v) ∈ l
 | [], h => by cases h
 | (i, u) :: r, h => by
  unfold MS at h
  rw [Fi] at h
  by_cases e : i = d
  ·rw [if_pos e] at h; injection h with h; rw [h, e]; simp
  ·rw [if_neg e] at h; exact List.mem_cons_of_mem _ (J2 h)
theorem Ol {w : AA} {d : Nat} : ∀ {l : List (Nat × AA)} {p : Nat × AA}, p ∈ O4 l d w → p ∈ l ∨ p = (d, w)
 | [], p, h => by cases h
 | (i, u) :: r, p, h => by
  unfold O4 at h
  rw [Fi] at h
  by_cases e : i = d
  ·rw [if_pos e] at h
   rcases List.mem_cons.1 h with h | h
   ·right; rw [h, e]
   ·left; exact List.mem_cons_of_mem _ h
  ·rw [if_neg e] at h
   rcases List.mem_cons.1 h with h | h
   ·left; rw [h]; simp
   ·rcases Ol h with h | h
    ·left; exact List.mem_cons_of_mem _ h
    ·right; exact h
theorem Has.Ua {fr : Fr} {N : Nat} {l : List (Nat × AA)} (H : Has fr N l) (d : Nat) {b w : Bool} (hb : b = w) (hd : MS l d = some (.bool b)) : Has fr N (O4 l d (.bool w)) := by
 subst hb
 refine ⟨H.1, fun p hp => ?_⟩
 rcases Ol hp with h | h
 ·exact H.2 p h
 ·rw [h]; exact H.2 _ (J2 hd)
section
variable {C : En} {S : Self} {g : Gd} {h : AB} {fr : Fr} {op : Op}
def Ws (P : Program) (fr : Fr) : Op → Option (List AA × Nat × Nat × Int × Bool)
 | .index t x i =>
  match P.underlying t, ev fr x, ev fr i with
  | some (.array n e), .agg cs, .int _ i =>
   match Ix P e, Bk P e with
   | some b, some z => some (cs, n, z, i, b)
   | _, _ => none
  | _, _, _ => none
 | _ => none
def Vy (h : AB) : Option Nat → Option (List (AA × AA))
 | none => some []
 | some id =>
  match h.get id with
  | some (.map st es) => if st ≠ 0 then some es else none
  | _ => none
def UT (P : Program) (h : AB) (t : TypeId) (m : Option Nat) (k : AA) : Option (AA × Bool) :=
 match P.underlying t with
 | some (.map kt et) =>
  if Ei P 20 kt k = true then
   match Vy h m with
   | some es =>
    match DP P kt k es 0 with
    | some (some (_, v)) => some (v, true)
    | some none => (Ek P et).map fun z => (z, false)
    | none => none
   | none => none
  else none
 | _ => none
def Ub (fr : Fr) : Op → Option (TypeId × Option Nat × AA × Bool)
 | .lookup t x k ok =>
  match ev fr x with
  | .map m => some (t, m, ev fr k, ok)
  | _ => none
 | _ => none
theorem OB {P : Program} {h : AB} {t : TypeId} {m : Option Nat} {k v : AA} {b ok : Bool} (hl : UT P h t m k = some (v, b)) :
  ∃ ob, (∀ id, m = some id → h.get id = some ob) ∧ IV P (m.map fun _ => ob) t (.map m) k ok = some (if ok then .tuple [v, .bool b] else v) := by
 unfold UT at hl
 split at hl
 ·rename_i kt et hu
  split at hl
  ·rename_i hk
   split at hl
   ·rename_i es he
    cases m with
    | none =>
     refine ⟨default, by simp, ?_⟩
     simp only [Vy, Option.some.injEq] at he
     subst he
     simp only [DP] at hl
     unfold IV
     simp only [hu, hk, if_true, DP]
     cases hz : Ek P et with
     | none => rw [hz] at hl; simp at hl
     | some z =>
      rw [hz] at hl
      simp only [Option.map_some, Option.some.injEq, Prod.mk.injEq] at hl
      obtain ⟨rfl, rfl⟩ := hl
      rfl
    | some id =>
     simp only [Vy] at he
     split at he
     ·rename_i st es' hg
      split at he
      ·rename_i hst
       simp only [Option.some.injEq] at he
       subst he
       refine ⟨.map st es', fun i hi => by simp only [Option.some.injEq] at hi; subst hi; exact hg, ?_⟩
       unfold IV
       simp only [hu, hk, if_true, Option.map_some, hst, ne_eq, not_false_eq_true]
       split at hl
       ·rename_i i w hf
        simp only [Option.some.injEq, Prod.mk.injEq] at hl
        obtain ⟨rfl, rfl⟩ := hl
        rw [hf]
       ·rename_i hf
        rw [hf]
        cases hz : Ek P et with
        | none => rw [hz] at hl; simp at hl
        | some z =>
         rw [hz] at hl
         simp only [Option.map_some, Option.some.injEq, Prod.mk.injEq] at hl
         obtain ⟨rfl, rfl⟩ := hl
         rfl
       ·cases hl
      ·cases he
     ·cases he
   ·cases hl
  ·cases hl
 ·cases hl
theorem We {t : TypeId} {m : Option Nat} {k v : AA} {b ok : Bool} (hs : Ub fr op = some (t, m, k, ok)) (hl : UT C.P h t m k = some (v, b)) : Ap C S g h fr op = some (if ok then .tuple [v, .bool b] else v, h) := by
 unfold Ub at hs
 split at hs
 ·split at hs
  ·rename_i ok' _ m' hx
   simp only [Option.some.injEq, Prod.mk.injEq] at hs
   obtain ⟨rfl, rfl, rfl, rfl⟩ := hs
   obtain ⟨ob, h1, h2⟩ := OB (ok := ok') hl
   cases hm : m' with
   | none =>
    subst hm
    simp only [Option.map_none] at h2
    simp [Ap, GO, AZ, CT, hx, DM, Hj, h2]
   | some id =>
    subst hm
    simp only [Option.map_some] at h2
    simp [Ap, GO, AZ, CT, hx, DM, Hj, h1 id rfl, h2]
  ·cases hs
 ·cases hs
theorem GY {t : TypeId} {m : Option Nat} {k v : AA} {b : Bool} (hs : Ub fr op = some (t, m, k, false)) (hl : UT C.P h t m k = some (v, b)) : Ap C S g h fr op = some (v, h) := We hs hl
def VY (P : Program) (g : Gd) (h : AB) (t : TypeId) (m : Option Nat) (k v : AA) : Option AB := Eb P g h t (.map m) k v
def Vd (fr : Fr) : Op → Option (TypeId × Option Nat × AA × AA)
 | .mapUpdate t m k v | .insert t m k v =>
  match ev fr m with
  | .map m => some (t, m, ev fr k, ev fr v)
  | _ => none
 | _ => none
theorem Vx {t : TypeId} {m : Option Nat} {k v : AA} {h' : AB} (hs : Vd fr op = some (t, m, k, v)) (hl : VY C.P g h t m k v = some h') : Ap C S g h fr op = some (.tuple [], h') := by
 unfold VY at hl
 unfold Vd at hs
 split at hs
 ·split at hs
  ·rename_i hx
   simp only [Option.some.injEq, Prod.mk.injEq] at hs
   obtain ⟨rfl, rfl, rfl, rfl⟩ := hs
   simp [Ap, GO, AZ, G2, hx, hl]
  ·cases hs
 ·split at hs
  ·rename_i hx
   simp only [Option.some.injEq, Prod.mk.injEq] at hs
   obtain ⟨rfl, rfl, rfl, rfl⟩ := hs
   simp [Ap, GO, AZ, G2, hx, hl]
  ·cases hs
 ·cases hs
end
@[irreducible] def Fb : Nat := 4611686018427387904
def cap {α β : Type} (as : AA → Option α) (rest : List AA → Option β) : List AA → Option (α × β)
 | v :: l => (as v).bind fun x => (rest l).map fun y => (x, y)
 | [] => none
end Go.Av
