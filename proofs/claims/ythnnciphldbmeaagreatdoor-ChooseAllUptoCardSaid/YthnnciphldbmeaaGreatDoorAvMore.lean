/-
  ABS, 18b: more rules for models: results that lie in cells, indexes into arrays, structs that are held against each other.
-/
import Derived.Test.YthnnciphldbmeaaGreatDoorAvWalk
namespace Go.Av
set_option linter.unusedSimpArgs false
def KE (l : List (Nat × List AA)) (g : Nat) : Option (List AA) :=
 match l with
 | [] => none
 | (i, cs) :: r => bif Nat.beq i g then some cs else KE r g
def Pk (l : List (Nat × AA)) (d : Nat) : Option AA :=
 match l with
 | [] => none
 | (i, v) :: r => bif Nat.beq i d then some v else Pk r d
def Rv (l : List (Nat × AA)) (d : Nat) (w : AA) : List (Nat × AA) :=
 match l with
 | [] => []
 | (i, v) :: r => bif Nat.beq i d then (i, w) :: r else (i, v) :: Rv r d w
theorem Mx {v : AA} {d : Nat} : ∀ {l : List (Nat × AA)}, Pk l d = some v → (d, v) ∈ l
 | [], h => by cases h
 | (i, u) :: r, h => by
  unfold Pk at h
  rw [IM] at h
  by_cases e : i = d
  ·rw [if_pos e] at h; injection h with h; rw [h, e]; simp
  ·rw [if_neg e] at h; exact List.mem_cons_of_mem _ (Mx h)
theorem Qi {w : AA} {d : Nat} : ∀ {l : List (Nat × AA)} {p : Nat × AA}, p ∈ Rv l d w → p ∈ l ∨ p = (d, w)
 | [], p, h => by cases h
 | (i, u) :: r, p, h => by
  unfold Rv at h
  rw [IM] at h
  by_cases e : i = d
  ·rw [if_pos e] at h
   rcases List.mem_cons.1 h with h | h
   ·right; rw [h, e]
   ·left; exact List.mem_cons_of_mem _ h
  ·rw [if_neg e] at h
   rcases List.mem_cons.1 h with h | h
   ·left; rw [h]; simp
   ·rcases Qi h with h | h
    ·left; exact List.mem_cons_of_mem _ h
    ·right; exact h
theorem Has.Vs {fr : Fr} {N : Nat} {l : List (Nat × AA)} (H : Has fr N l) (d : Nat) {b w : Bool} (hb : b = w) (hd : Pk l d = some (.bool b)) : Has fr N (Rv l d (.bool w)) := by
 subst hb
 refine ⟨H.1, fun p hp => ?_⟩
 rcases Qi hp with h | h
 ·exact H.2 p h
 ·rw [h]; exact H.2 _ (Mx hd)
inductive P0 (P : Program) (fr : Fr) (h : AH) : List ResultVar → List AA → Prop where
 | nil : P0 P fr h [] []
 | tmp {t : Tmp} {v : AA} {rs : List ResultVar} {vs : List AA} (e : nth fr t = v) (r : P0 P fr h rs vs) : P0 P fr h (.tmp t :: rs) (v :: vs)
 | cell {a : Tmp} {t : TypeId} {p : Nat × Nat} {v : AA} {rs : List ResultVar} {vs : List AA} (e : nth fr a = .ptr (some p)) (hl : Gb P (h.get p.1) t p.2 = some v) (r : P0 P fr h rs vs) : P0 P fr h (.cell a t :: rs) (v :: vs)
theorem P0.mapM {P : Program} {fr : Fr} {h : AH} {rs : List ResultVar} {vs : List AA} (r : P0 P fr h rs vs) : rs.mapM (HT P fr h) = some vs := by
 induction r with
 | nil => rfl
 | tmp e _ ih => rw [List.mapM_cons, ih]; simp [HT, e]
 | cell e hl _ ih => rw [List.mapM_cons, ih]; simp [HT, e, hl]
theorem DJ {P : Program} {fr : Fr} {h : AH} {rs : List ResultVar} {v : AA} (r : P0 P fr h rs [v]) : LL P rs fr h = some v := by
 unfold LL; rw [r.mapM]
theorem CA {P : Program} {fr : Fr} {h : AH} {rs : List ResultVar} {v w : AA} {vs : List AA} (r : P0 P fr h rs (v :: w :: vs)) : LL P rs fr h = some (.tuple (v :: w :: vs)) := by
 unfold LL; rw [r.mapM]
theorem St {P : Program} {h : AH} {t : TypeId} {a : Nat × Nat} {v : AA} (ha : Jt P t = some false) (hl : NX h a = some v) : Gb P (h.get a.1) t a.2 = some v := by
 unfold Gb
 rw [ha]
 exact hl
theorem BS {P : Program} {h : AH} {t : TypeId} {a : Nat × Nat} {n : Nat} {cs : List AA} (ha : Jt P t = some true) (hn : Cv P t = some n) (hl : GA h a n = some cs) : Gb P (h.get a.1) t a.2 = some (.agg cs) := by
 unfold Gb
 rw [ha, hn]
 unfold GA at hl
 simp [hl]
section
variable {C : HU} {S : Self} {g : Gd} {h : AH} {fr : Fr} {op : Op}
def Xu (P : Program) (fr : Fr) : Op → Option (List AA × Nat × Nat × Int × Bool)
 | .index t x i =>
  match P.underlying t, ev fr x, ev fr i with
  | some (.array n e), .agg cs, .int _ i =>
   match Jt P e, Cv P e with
   | some b, some z => some (cs, n, z, i, b)
   | _, _ => none
  | _, _, _ => none
 | _ => none
def SZ (P : Program) (t : TypeId) (xs ys : List AA) : Option Bool := if P.eqGuardType P.depth t = true then none else II P 10000 t (.agg xs) (.agg ys)
def Se (fr : Fr) : Op → Option (Bool × TypeId × List AA × List AA)
 | .binOp op t x y _ =>
  match ev fr x, ev fr y, op with
  | .agg xs, .agg ys, .eql => some (true, t, xs, ys)
  | .agg xs, .agg ys, .neq => some (false, t, xs, ys)
  | _, _, _ => none
 | _ => none
theorem Ve {t : TypeId} {xs ys : List AA} {b : Bool} (hs : Se fr op = some (true, t, xs, ys)) (hl : SZ C.P t xs ys = some b) : Bc C S g h fr op = some (.bool b, h) := by
 unfold Se at hs
 split at hs
 ·split at hs
  ·rename_i hx hy
   simp only [Option.some.injEq, Prod.mk.injEq, true_and] at hs
   obtain ⟨rfl, rfl, rfl⟩ := hs
   unfold SZ at hl
   split at hl
   ·cases hl
   ·rename_i hg
    simp [Bc, Ih, BE, Iv, Rt, Rh, hx, hy, hg, hl]
  ·simp at hs
  ·cases hs
 ·cases hs
theorem Vb {t : TypeId} {xs ys : List AA} {b : Bool} (hs : Se fr op = some (false, t, xs, ys)) (hl : SZ C.P t xs ys = some b) : Bc C S g h fr op = some (.bool !b, h) := by
 unfold Se at hs
 split at hs
 ·split at hs
  ·simp at hs
  ·rename_i hx hy
   simp only [Option.some.injEq, Prod.mk.injEq, true_and] at hs
   obtain ⟨rfl, rfl, rfl⟩ := hs
   unfold SZ at hl
   split at hl
   ·cases hl
   ·rename_i hg
    simp [Bc, Ih, BE, Iv, Rt, Rh, hx, hy, hg, hl]
  ·cases hs
 ·cases hs
def T0 (h : AH) : Option Nat → Option (List (AA × AA))
 | none => some []
 | some id =>
  match h.get id with
  | some (.map st es) => if st ≠ 0 then some es else none
  | _ => none
def R8 (P : Program) (h : AH) (t : TypeId) (m : Option Nat) (k : AA) : Option (AA × Bool) :=
 match P.underlying t with
 | some (.map kt et) =>
  if FP P 20 kt k = true then
   match T0 h m with
   | some es =>
    match Cu P kt k es 0 with
    | some (some (_, v)) => some (v, true)
    | some none => (HD P et).map fun z => (z, false)
    | none => none
   | none => none
  else none
 | _ => none
def U5 (fr : Fr) : Op → Option (TypeId × Option Nat × AA × Bool)
 | .lookup t x k ok =>
  match ev fr x with
  | .map m => some (t, m, ev fr k, ok)
  | _ => none
 | _ => none
theorem Qu {P : Program} {h : AH} {t : TypeId} {m : Option Nat} {k v : AA} {b ok : Bool} (hl : R8 P h t m k = some (v, b)) :
  ∃ ob, (∀ id, m = some id → h.get id = some ob) ∧ K9 P (m.map fun _ => ob) t (.map m) k ok = some (if ok then .tuple [v, .bool b] else v) := by
 unfold R8 at hl
 split at hl
 ·rename_i kt et hu
  split at hl
  ·rename_i hk
   split at hl
   ·rename_i es he
    cases m with
    | none =>
     refine ⟨default, by simp, ?_⟩
     simp only [T0, Option.some.injEq] at he
     subst he
     simp only [Cu] at hl
     unfold K9
     simp only [hu, hk, if_true, Cu]
     cases hz : HD P et with
     | none => rw [hz] at hl; simp at hl
     | some z =>
      rw [hz] at hl
      simp only [Option.map_some, Option.some.injEq, Prod.mk.injEq] at hl
      obtain ⟨rfl, rfl⟩ := hl
      rfl
    | some id =>
     simp only [T0] at he
     split at he
     ·rename_i st es' hg
      split at he
      ·rename_i hst
       simp only [Option.some.injEq] at he
       subst he
       refine ⟨.map st es', fun i hi => by simp only [Option.some.injEq] at hi; subst hi; exact hg, ?_⟩
       unfold K9
       simp only [hu, hk, if_true, Option.map_some, hst, ne_eq, not_false_eq_true]
       split at hl
       ·rename_i i w hf
        simp only [Option.some.injEq, Prod.mk.injEq] at hl
        obtain ⟨rfl, rfl⟩ := hl
        rw [hf]
       ·rename_i hf
        rw [hf]
        cases hz : HD P et with
        | none => rw [hz] at hl; simp at hl
        | some z =>
         rw [hz] at hl
         simp only [Option.map_some, Option.some.injEq, Prod.mk.injEq] at hl
         obtain ⟨rfl, rfl⟩ := hl
         rfl
       ·cases hl
      ·cases he
     ·cases he
   ·cases hl
  ·cases hl
 ·cases hl
theorem Ww {t : TypeId} {m : Option Nat} {k v : AA} {b ok : Bool} (hs : U5 fr op = some (t, m, k, ok)) (hl : R8 C.P h t m k = some (v, b)) : Bc C S g h fr op = some (if ok then .tuple [v, .bool b] else v, h) := by
 unfold U5 at hs
 split at hs
 ·split at hs
  ·rename_i ok' _ m' hx
   simp only [Option.some.injEq, Prod.mk.injEq] at hs
   obtain ⟨rfl, rfl, rfl, rfl⟩ := hs
   obtain ⟨ob, h1, h2⟩ := Qu (ok := ok') hl
   cases hm : m' with
   | none =>
    subst hm
    simp only [Option.map_none] at h2
    simp [Bc, Ih, BE, DX, hx, Ew, KJ, h2]
   | some id =>
    subst hm
    simp only [Option.map_some] at h2
    simp [Bc, Ih, BE, DX, hx, Ew, KJ, h1 id rfl, h2]
  ·cases hs
 ·cases hs
theorem RL {t : TypeId} {m : Option Nat} {k v : AA} {b : Bool} (hs : U5 fr op = some (t, m, k, true)) (hl : R8 C.P h t m k = some (v, b)) : Bc C S g h fr op = some (.tuple [v, .bool b], h) := Ww hs hl
theorem PE {t : TypeId} {m : Option Nat} {k v : AA} {b : Bool} (hs : U5 fr op = some (t, m, k, false)) (hl : R8 C.P h t m k = some (v, b)) : Bc C S g h fr op = some (v, h) := Ww hs hl
def WY (P : Program) (g : Gd) (h : AH) (t : TypeId) (m : Option Nat) (k v : AA) : Option AH := GP P g h t (.map m) k v
def W3 (fr : Fr) : Op → Option (TypeId × Option Nat × AA × AA)
 | .mapUpdate t m k v | .insert t m k v =>
  match ev fr m with
  | .map m => some (t, m, ev fr k, ev fr v)
  | _ => none
 | _ => none
theorem SD {t : TypeId} {m : Option Nat} {k v : AA} {h' : AH} (hs : W3 fr op = some (t, m, k, v)) (hl : WY C.P g h t m k v = some h') : Bc C S g h fr op = some (.tuple [], h') := by
 unfold WY at hl
 unfold W3 at hs
 split at hs
 ·split at hs
  ·rename_i hx
   simp only [Option.some.injEq, Prod.mk.injEq] at hs
   obtain ⟨rfl, rfl, rfl, rfl⟩ := hs
   simp [Bc, Ih, BE, KP, hx, hl]
  ·cases hs
 ·split at hs
  ·rename_i hx
   simp only [Option.some.injEq, Prod.mk.injEq] at hs
   obtain ⟨rfl, rfl, rfl, rfl⟩ := hs
   simp [Bc, Ih, BE, KP, hx, hl]
  ·cases hs
 ·cases hs
def XC (h : AH) (m : Option Nat) : Option Int := (T0 h m).map fun es => (es.length : Int)
def TT (P : Program) (fr : Fr) : Op → Option (Option Nat)
 | .call { callee := .builtin .len, args := as, argTypes := ts } =>
  match as.toList, ts[0]? with
  | [x], some t =>
   match P.underlying t, ev fr x with
   | some (.map _ _), .map m => some m
   | _, _ => none
  | _, _ => none
 | _ => none
end
@[irreducible] def Xz : Nat := 4611686018427387904
def cap {α β : Type} (as : AA → Option α) (rest : List AA → Option β) : List AA → Option (α × β)
 | v :: l => (as v).bind fun x => (rest l).map fun y => (x, y)
 | [] => none
end Go.Av
