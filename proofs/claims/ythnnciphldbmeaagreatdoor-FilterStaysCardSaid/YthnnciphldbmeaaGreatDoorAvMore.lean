/-
  ABS, 18b: more rules for models: results that lie in cells, indexes into arrays, structs that are held against each other.
-/
import Derived.Test.YthnnciphldbmeaaGreatDoorAvWalk
namespace Go.Av
set_option linter.unusedSimpArgs false
def Kc (l : List (Nat × List AD)) (g : Nat) : Option (List AD) :=
 match l with
 | [] => none
 | (i, cs) :: r => bif Nat.beq i g then some cs else Kc r g
def Pu (l : List (Nat × AD)) (d : Nat) : Option AD :=
 match l with
 | [] => none
 | (i, v) :: r => bif Nat.beq i d then some v else Pu r d
def SP (l : List (Nat × AD)) (d : Nat) (w : AD) : List (Nat × AD) :=
 match l with
 | [] => []
 | (i, v) :: r => bif Nat.beq i d then (i, w) :: r else (i, v) :: SP r d w
theorem NU {v : AD} {d : Nat} : ∀ {l : List (Nat × AD)}, Pu l d = some v → (d, v) ∈ l
 | [], h => by cases h
 | (i, u) :: r, h => by
  unfold Pu at h
  rw [IN] at h
  by_cases e : i = d
  ·rw [if_pos e] at h; injection h with h; rw [h, e]; simp
  ·rw [if_neg e] at h; exact List.mem_cons_of_mem _ (NU h)
theorem RX {w : AD} {d : Nat} : ∀ {l : List (Nat × AD)} {p : Nat × AD}, p ∈ SP l d w → p ∈ l ∨ p = (d, w)
 | [], p, h => by cases h
 | (i, u) :: r, p, h => by
  unfold SP at h
  rw [IN] at h
  by_cases e : i = d
  ·rw [if_pos e] at h
   rcases List.mem_cons.1 h with h | h
   ·right; rw [h, e]
   ·left; exact List.mem_cons_of_mem _ h
  ·rw [if_neg e] at h
   rcases List.mem_cons.1 h with h | h
   ·left; rw [h]; simp
   ·rcases RX h with h | h
    ·left; exact List.mem_cons_of_mem _ h
    ·right; exact h
theorem Has.Wj {fr : Fr} {N : Nat} {l : List (Nat × AD)} (H : Has fr N l) (d : Nat) {b w : Bool} (hb : b = w) (hd : Pu l d = some (.bool b)) : Has fr N (SP l d (.bool w)) := by
 subst hb
 refine ⟨H.1, fun p hp => ?_⟩
 rcases RX hp with h | h
 ·exact H.2 p h
 ·rw [h]; exact H.2 _ (NU hd)
inductive Qn (P : Program) (fr : Fr) (h : AM) : List ResultVar → List AD → Prop where
 | nil : Qn P fr h [] []
 | tmp {t : Tmp} {v : AD} {rs : List ResultVar} {vs : List AD} (e : nth fr t = v) (r : Qn P fr h rs vs) : Qn P fr h (.tmp t :: rs) (v :: vs)
 | cell {a : Tmp} {t : TypeId} {p : Nat × Nat} {v : AD} {rs : List ResultVar} {vs : List AD} (e : nth fr a = .ptr (some p)) (hl : Gp P (h.get p.1) t p.2 = some v) (r : Qn P fr h rs vs) : Qn P fr h (.cell a t :: rs) (v :: vs)
theorem Qn.mapM {P : Program} {fr : Fr} {h : AM} {rs : List ResultVar} {vs : List AD} (r : Qn P fr h rs vs) : rs.mapM (Hh P fr h) = some vs := by
 induction r with
 | nil => rfl
 | tmp e _ ih => rw [List.mapM_cons, ih]; simp [Hh, e]
 | cell e hl _ ih => rw [List.mapM_cons, ih]; simp [Hh, e, hl]
theorem EY {P : Program} {fr : Fr} {h : AM} {rs : List ResultVar} {v : AD} (r : Qn P fr h rs [v]) : Lp P rs fr h = some v := by
 unfold Lp; rw [r.mapM]
theorem B8 {P : Program} {fr : Fr} {h : AM} {rs : List ResultVar} {v w : AD} {vs : List AD} (r : Qn P fr h rs (v :: w :: vs)) : Lp P rs fr h = some (.tuple (v :: w :: vs)) := by
 unfold Lp; rw [r.mapM]
theorem C3 {P : Program} {h : AM} {t : TypeId} {a : Nat × Nat} {v : AD} (ha : KX P t = some false) (hl : N6 h a = some v) : Gp P (h.get a.1) t a.2 = some v := by
 unfold Gp
 rw [ha]
 exact hl
theorem B6 {P : Program} {h : AM} {t : TypeId} {a : Nat × Nat} {n : Nat} {cs : List AD} (ha : KX P t = some true) (hn : C5 P t = some n) (hl : GQ h a n = some cs) : Gp P (h.get a.1) t a.2 = some (.agg cs) := by
 unfold Gp
 rw [ha, hn]
 unfold GQ at hl
 simp [hl]
section
variable {C : Hj} {S : Self} {g : Gd} {h : AM} {fr : Fr} {op : Op}
def Ya (P : Program) (fr : Fr) : Op → Option (List AD × Nat × Nat × Int × Bool)
 | .index t x i =>
  match P.underlying t, ev fr x, ev fr i with
  | some (.array n e), .agg cs, .int _ i =>
   match KX P e, C5 P e with
   | some b, some z => some (cs, n, z, i, b)
   | _, _ => none
  | _, _, _ => none
 | _ => none
def TB (P : Program) (t : TypeId) (xs ys : List AD) : Option Bool := if P.eqGuardType P.depth t = true then none else IX P 10000 t (.agg xs) (.agg ys)
def S5 (fr : Fr) : Op → Option (Bool × TypeId × List AD × List AD)
 | .binOp op t x y _ =>
  match ev fr x, ev fr y, op with
  | .agg xs, .agg ys, .eql => some (true, t, xs, ys)
  | .agg xs, .agg ys, .neq => some (false, t, xs, ys)
  | _, _, _ => none
 | _ => none
theorem WW {t : TypeId} {xs ys : List AD} {b : Bool} (hs : S5 fr op = some (true, t, xs, ys)) (hl : TB C.P t xs ys = some b) : Bl C S g h fr op = some (.bool b, h) := by
 unfold S5 at hs
 split at hs
 ·split at hs
  ·rename_i hx hy
   simp only [Option.some.injEq, Prod.mk.injEq, true_and] at hs
   obtain ⟨rfl, rfl, rfl⟩ := hs
   unfold TB at hl
   split at hl
   ·cases hl
   ·rename_i hg
    simp [Bl, Il, BI, I4, Ss, SX, hx, hy, hg, hl]
  ·simp at hs
  ·cases hs
 ·cases hs
theorem WK {t : TypeId} {xs ys : List AD} {b : Bool} (hs : S5 fr op = some (false, t, xs, ys)) (hl : TB C.P t xs ys = some b) : Bl C S g h fr op = some (.bool !b, h) := by
 unfold S5 at hs
 split at hs
 ·split at hs
  ·simp at hs
  ·rename_i hx hy
   simp only [Option.some.injEq, Prod.mk.injEq, true_and] at hs
   obtain ⟨rfl, rfl, rfl⟩ := hs
   unfold TB at hl
   split at hl
   ·cases hl
   ·rename_i hg
    simp [Bl, Il, BI, I4, Ss, SX, hx, hy, hg, hl]
  ·cases hs
 ·cases hs
def UN (h : AM) : Option Nat → Option (List (AD × AD))
 | none => some []
 | some id =>
  match h.get id with
  | some (.map st es) => if st ≠ 0 then some es else none
  | _ => none
def S2 (P : Program) (h : AM) (t : TypeId) (m : Option Nat) (k : AD) : Option (AD × Bool) :=
 match P.underlying t with
 | some (.map kt et) =>
  if Fk P 20 kt k = true then
   match UN h m with
   | some es =>
    match Cx P kt k es 0 with
    | some (some (_, v)) => some (v, true)
    | some none => (HT P et).map fun z => (z, false)
    | none => none
   | none => none
  else none
 | _ => none
def VY (fr : Fr) : Op → Option (TypeId × Option Nat × AD × Bool)
 | .lookup t x k ok =>
  match ev fr x with
  | .map m => some (t, m, ev fr k, ok)
  | _ => none
 | _ => none
theorem SG {P : Program} {h : AM} {t : TypeId} {m : Option Nat} {k v : AD} {b ok : Bool} (hl : S2 P h t m k = some (v, b)) :
  ∃ ob, (∀ id, m = some id → h.get id = some ob) ∧ La P (m.map fun _ => ob) t (.map m) k ok = some (if ok then .tuple [v, .bool b] else v) := by
 unfold S2 at hl
 split at hl
 ·rename_i kt et hu
  split at hl
  ·rename_i hk
   split at hl
   ·rename_i es he
    cases m with
    | none =>
     refine ⟨default, by simp, ?_⟩
     simp only [UN, Option.some.injEq] at he
     subst he
     simp only [Cx] at hl
     unfold La
     simp only [hu, hk, if_true, Cx]
     cases hz : HT P et with
     | none => rw [hz] at hl; simp at hl
     | some z =>
      rw [hz] at hl
      simp only [Option.map_some, Option.some.injEq, Prod.mk.injEq] at hl
      obtain ⟨rfl, rfl⟩ := hl
      rfl
    | some id =>
     simp only [UN] at he
     split at he
     ·rename_i st es' hg
      split at he
      ·rename_i hst
       simp only [Option.some.injEq] at he
       subst he
       refine ⟨.map st es', fun i hi => by simp only [Option.some.injEq] at hi; subst hi; exact hg, ?_⟩
       unfold La
       simp only [hu, hk, if_true, Option.map_some, hst, ne_eq, not_false_eq_true]
       split at hl
       ·rename_i i w hf
        simp only [Option.some.injEq, Prod.mk.injEq] at hl
        obtain ⟨rfl, rfl⟩ := hl
        rw [hf]
       ·rename_i hf
        rw [hf]
        cases hz : HT P et with
        | none => rw [hz] at hl; simp at hl
        | some z =>
         rw [hz] at hl
         simp only [Option.map_some, Option.some.injEq, Prod.mk.injEq] at hl
         obtain ⟨rfl, rfl⟩ := hl
         rfl
       ·cases hl
      ·cases he
     ·cases he
   ·cases hl
  ·cases hl
 ·cases hl
theorem Xj {t : TypeId} {m : Option Nat} {k v : AD} {b ok : Bool} (hs : VY fr op = some (t, m, k, ok)) (hl : S2 C.P h t m k = some (v, b)) : Bl C S g h fr op = some (if ok then .tuple [v, .bool b] else v, h) := by
 unfold VY at hs
 split at hs
 ·split at hs
  ·rename_i ok' _ m' hx
   simp only [Option.some.injEq, Prod.mk.injEq] at hs
   obtain ⟨rfl, rfl, rfl, rfl⟩ := hs
   obtain ⟨ob, h1, h2⟩ := SG (ok := ok') hl
   cases hm : m' with
   | none =>
    subst hm
    simp only [Option.map_none] at h2
    simp [Bl, Il, BI, Dj, hx, FB, Kk, h2]
   | some id =>
    subst hm
    simp only [Option.map_some] at h2
    simp [Bl, Il, BI, Dj, hx, FB, Kk, h1 id rfl, h2]
  ·cases hs
 ·cases hs
theorem TG {t : TypeId} {m : Option Nat} {k v : AD} {b : Bool} (hs : VY fr op = some (t, m, k, true)) (hl : S2 C.P h t m k = some (v, b)) : Bl C S g h fr op = some (.tuple [v, .bool b], h) := Xj hs hl
theorem Rq {t : TypeId} {m : Option Nat} {k v : AD} {b : Bool} (hs : VY fr op = some (t, m, k, false)) (hl : S2 C.P h t m k = some (v, b)) : Bl C S g h fr op = some (v, h) := Xj hs hl
def XH (P : Program) (g : Gd) (h : AM) (t : TypeId) (m : Option Nat) (k v : AD) : Option AM := Gb P g h t (.map m) k v
def Xx (fr : Fr) : Op → Option (TypeId × Option Nat × AD × AD)
 | .mapUpdate t m k v | .insert t m k v =>
  match ev fr m with
  | .map m => some (t, m, ev fr k, ev fr v)
  | _ => none
 | _ => none
theorem Ty {t : TypeId} {m : Option Nat} {k v : AD} {h' : AM} (hs : Xx fr op = some (t, m, k, v)) (hl : XH C.P g h t m k v = some h') : Bl C S g h fr op = some (.tuple [], h') := by
 unfold XH at hl
 unfold Xx at hs
 split at hs
 ·split at hs
  ·rename_i hx
   simp only [Option.some.injEq, Prod.mk.injEq] at hs
   obtain ⟨rfl, rfl, rfl, rfl⟩ := hs
   simp [Bl, Il, BI, Kp, hx, hl]
  ·cases hs
 ·split at hs
  ·rename_i hx
   simp only [Option.some.injEq, Prod.mk.injEq] at hs
   obtain ⟨rfl, rfl, rfl, rfl⟩ := hs
   simp [Bl, Il, BI, Kp, hx, hl]
  ·cases hs
 ·cases hs
def X2 (h : AM) (m : Option Nat) : Option Int := (UN h m).map fun es => (es.length : Int)
def U1 (P : Program) (fr : Fr) : Op → Option (Option Nat)
 | .call { callee := .builtin .len, args := as, argTypes := ts } =>
  match as.toList, ts[0]? with
  | [x], some t =>
   match P.underlying t, ev fr x with
   | some (.map _ _), .map m => some m
   | _, _ => none
  | _, _ => none
 | _ => none
end
@[irreducible] def Y1 : Nat := 4611686018427387904
def cap {α β : Type} (as : AD → Option α) (rest : List AD → Option β) : List AD → Option (α × β)
 | v :: l => (as v).bind fun x => (rest l).map fun y => (x, y)
 | [] => none
end Go.Av
