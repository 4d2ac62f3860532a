/-
  ABS, 18b: more rules for models: results that lie in cells, indexes into arrays, structs that are held against each other.
-/
import Derived.Test.YthnnciphldbmeaaGreatDoorAvWalk
namespace Go.Av
set_option linter.unusedSimpArgs false
def Ka (l : List (Nat × List AA)) (g : Nat) : Option (List AA) :=
 match l with
 | [] => none
 | (i, cs) :: r => bif Nat.beq i g then some cs else Ka r g
def P5 (l : List (Nat × AA)) (d : Nat) : Option AA :=
 match l with
 | [] => none
 | (i, v) :: r => bif Nat.beq i d then some v else P5 r d
def TI (l : List (Nat × AA)) (d : Nat) (w : AA) : List (Nat × AA) :=
 match l with
 | [] => []
 | (i, v) :: r => bif Nat.beq i d then (i, w) :: r else (i, v) :: TI r d w
theorem Nj {v : AA} {d : Nat} : ∀ {l : List (Nat × AA)}, P5 l d = some v → (d, v) ∈ l
 | [], h => by cases h
 | (i, u) :: r, h => by
  unfold P5 at h
  rw [IL] at h
  by_cases e : i = d
  ·rw [if_pos e] at h; injection h with h; rw [h, e]; simp
  ·rw [if_neg e] at h; exact List.mem_cons_of_mem _ (Nj h)
theorem Ro {w : AA} {d : Nat} : ∀ {l : List (Nat × AA)} {p : Nat × AA}, p ∈ TI l d w → p ∈ l ∨ p = (d, w)
 | [], p, h => by cases h
 | (i, u) :: r, p, h => by
  unfold TI at h
  rw [IL] at h
  by_cases e : i = d
  ·rw [if_pos e] at h
   rcases List.mem_cons.1 h with h | h
   ·right; rw [h, e]
   ·left; exact List.mem_cons_of_mem _ h
  ·rw [if_neg e] at h
   rcases List.mem_cons.1 h with h | h
   ·left; rw [h]; simp
   ·rcases Ro h with h | h
    ·left; exact List.mem_cons_of_mem _ h
    ·right; exact h
theorem Has.XE {fr : Fr} {N : Nat} {l : List (Nat × AA)} (H : Has fr N l) (d : Nat) {b w : Bool} (hb : b = w) (hd : P5 l d = some (.bool b)) : Has fr N (TI l d (.bool w)) := by
 subst hb
 refine ⟨H.1, fun p hp => ?_⟩
 rcases Ro hp with h | h
 ·exact H.2 p h
 ·rw [h]; exact H.2 _ (Nj hd)
inductive RX (P : Program) (fr : Fr) (h : AH) : List ResultVar → List AA → Prop where
 | nil : RX P fr h [] []
 | tmp {t : Tmp} {v : AA} {rs : List ResultVar} {vs : List AA} (e : nth fr t = v) (r : RX P fr h rs vs) : RX P fr h (.tmp t :: rs) (v :: vs)
 | cell {a : Tmp} {t : TypeId} {p : Nat × Nat} {v : AA} {rs : List ResultVar} {vs : List AA} (e : nth fr a = .ptr (some p)) (hl : Gp P (h.get p.1) t p.2 = some v) (r : RX P fr h rs vs) : RX P fr h (.cell a t :: rs) (v :: vs)
theorem RX.mapM {P : Program} {fr : Fr} {h : AH} {rs : List ResultVar} {vs : List AA} (r : RX P fr h rs vs) : rs.mapM (He P fr h) = some vs := by
 induction r with
 | nil => rfl
 | tmp e _ ih => rw [List.mapM_cons, ih]; simp [He, e]
 | cell e hl _ ih => rw [List.mapM_cons, ih]; simp [He, e, hl]
theorem EL {P : Program} {fr : Fr} {h : AH} {rs : List ResultVar} {v : AA} (r : RX P fr h rs [v]) : Lv P rs fr h = some v := by
 unfold Lv; rw [r.mapM]
theorem CK {P : Program} {fr : Fr} {h : AH} {rs : List ResultVar} {v w : AA} {vs : List AA} (r : RX P fr h rs (v :: w :: vs)) : Lv P rs fr h = some (.tuple (v :: w :: vs)) := by
 unfold Lv; rw [r.mapM]
theorem Fl {P : Program} {h : AH} {t : TypeId} {a : Nat × Nat} {v : AA} (ha : KJ P t = some false) (hl : OI h a = some v) : Gp P (h.get a.1) t a.2 = some v := by
 unfold Gp
 rw [ha]
 exact hl
theorem By {P : Program} {h : AH} {t : TypeId} {a : Nat × Nat} {n : Nat} {cs : List AA} (ha : KJ P t = some true) (hn : Cg P t = some n) (hl : HG h a n = some cs) : Gp P (h.get a.1) t a.2 = some (.agg cs) := by
 unfold Gp
 rw [ha, hn]
 unfold HG at hl
 simp [hl]
section
variable {C : Hc} {S : Self} {g : Gd} {h : AH} {fr : Fr} {op : Op}
def Y4 (P : Program) (fr : Fr) : Op → Option (List AA × Nat × Nat × Int × Bool)
 | .index t x i =>
  match P.underlying t, ev fr x, ev fr i with
  | some (.array n e), .agg cs, .int _ i =>
   match KJ P e, Cg P e with
   | some b, some z => some (cs, n, z, i, b)
   | _, _ => none
  | _, _, _ => none
 | _ => none
def Xh (P : Program) (t : TypeId) (xs ys : List AA) : Option Bool := if P.eqGuardType P.depth t = true then none else IF P 10000 t (.agg xs) (.agg ys)
def Th (fr : Fr) : Op → Option (Bool × TypeId × List AA × List AA)
 | .binOp op t x y _ =>
  match ev fr x, ev fr y, op with
  | .agg xs, .agg ys, .eql => some (true, t, xs, ys)
  | .agg xs, .agg ys, .neq => some (false, t, xs, ys)
  | _, _, _ => none
 | _ => none
theorem YT {t : TypeId} {xs ys : List AA} {b : Bool} (hs : Th fr op = some (true, t, xs, ys)) (hl : Xh C.P t xs ys = some b) : Bb C S g h fr op = some (.bool b, h) := by
 unfold Th at hs
 split at hs
 ·split at hs
  ·rename_i hx hy
   simp only [Option.some.injEq, Prod.mk.injEq, true_and] at hs
   obtain ⟨rfl, rfl, rfl⟩ := hs
   unfold Xh at hl
   split at hl
   ·cases hl
   ·rename_i hg
    simp [Bb, IV, BC, Iz, Rm, Rt, hx, hy, hg, hl]
  ·simp at hs
  ·cases hs
 ·cases hs
theorem YN {t : TypeId} {xs ys : List AA} {b : Bool} (hs : Th fr op = some (false, t, xs, ys)) (hl : Xh C.P t xs ys = some b) : Bb C S g h fr op = some (.bool !b, h) := by
 unfold Th at hs
 split at hs
 ·split at hs
  ·simp at hs
  ·rename_i hx hy
   simp only [Option.some.injEq, Prod.mk.injEq, true_and] at hs
   obtain ⟨rfl, rfl, rfl⟩ := hs
   unfold Xh at hl
   split at hl
   ·cases hl
   ·rename_i hg
    simp [Bb, IV, BC, Iz, Rm, Rt, hx, hy, hg, hl]
  ·cases hs
 ·cases hs
def Vg (h : AH) : Option Nat → Option (List (AA × AA))
 | none => some []
 | some id =>
  match h.get id with
  | some (.map st es) => if st ≠ 0 then some es else none
  | _ => none
def TK (P : Program) (h : AH) (t : TypeId) (m : Option Nat) (k : AA) : Option (AA × Bool) :=
 match P.underlying t with
 | some (.map kt et) =>
  if FM P 20 kt k = true then
   match Vg h m with
   | some es =>
    match Cq P kt k es 0 with
    | some (some (_, v)) => some (v, true)
    | some none => (HM P et).map fun z => (z, false)
    | none => none
   | none => none
  else none
 | _ => none
def WI (fr : Fr) : Op → Option (TypeId × Option Nat × AA × Bool)
 | .lookup t x k ok =>
  match ev fr x with
  | .map m => some (t, m, ev fr k, ok)
  | _ => none
 | _ => none
theorem Ri {P : Program} {h : AH} {t : TypeId} {m : Option Nat} {k v : AA} {b ok : Bool} (hl : TK P h t m k = some (v, b)) :
  ∃ ob, (∀ id, m = some id → h.get id = some ob) ∧ Ll P (m.map fun _ => ob) t (.map m) k ok = some (if ok then .tuple [v, .bool b] else v) := by
 unfold TK at hl
 split at hl
 ·rename_i kt et hu
  split at hl
  ·rename_i hk
   split at hl
   ·rename_i es he
    cases m with
    | none =>
     refine ⟨default, by simp, ?_⟩
     simp only [Vg, Option.some.injEq] at he
     subst he
     simp only [Cq] at hl
     unfold Ll
     simp only [hu, hk, if_true, Cq]
     cases hz : HM P et with
     | none => rw [hz] at hl; simp at hl
     | some z =>
      rw [hz] at hl
      simp only [Option.map_some, Option.some.injEq, Prod.mk.injEq] at hl
      obtain ⟨rfl, rfl⟩ := hl
      rfl
    | some id =>
     simp only [Vg] at he
     split at he
     ·rename_i st es' hg
      split at he
      ·rename_i hst
       simp only [Option.some.injEq] at he
       subst he
       refine ⟨.map st es', fun i hi => by simp only [Option.some.injEq] at hi; subst hi; exact hg, ?_⟩
       unfold Ll
       simp only [hu, hk, if_true, Option.map_some, hst, ne_eq, not_false_eq_true]
       split at hl
       ·rename_i i w hf
        simp only [Option.some.injEq, Prod.mk.injEq] at hl
        obtain ⟨rfl, rfl⟩ := hl
        rw [hf]
       ·rename_i hf
        rw [hf]
        cases hz : HM P et with
        | none => rw [hz] at hl; simp at hl
        | some z =>
         rw [hz] at hl
         simp only [Option.map_some, Option.some.injEq, Prod.mk.injEq] at hl
         obtain ⟨rfl, rfl⟩ := hl
         rfl
       ·cases hl
      ·cases he
     ·cases he
   ·cases hl
  ·cases hl
 ·cases hl
theorem Xr {t : TypeId} {m : Option Nat} {k v : AA} {b ok : Bool} (hs : WI fr op = some (t, m, k, ok)) (hl : TK C.P h t m k = some (v, b)) : Bb C S g h fr op = some (if ok then .tuple [v, .bool b] else v, h) := by
 unfold WI at hs
 split at hs
 ·split at hs
  ·rename_i ok' _ m' hx
   simp only [Option.some.injEq, Prod.mk.injEq] at hs
   obtain ⟨rfl, rfl, rfl, rfl⟩ := hs
   obtain ⟨ob, h1, h2⟩ := Ri (ok := ok') hl
   cases hm : m' with
   | none =>
    subst hm
    simp only [Option.map_none] at h2
    simp [Bb, IV, BC, DW, hx, Er, Kh, h2]
   | some id =>
    subst hm
    simp only [Option.map_some] at h2
    simp [Bb, IV, BC, DW, hx, Er, Kh, h1 id rfl, h2]
  ·cases hs
 ·cases hs
theorem Tj {t : TypeId} {m : Option Nat} {k v : AA} {b : Bool} (hs : WI fr op = some (t, m, k, true)) (hl : TK C.P h t m k = some (v, b)) : Bb C S g h fr op = some (.tuple [v, .bool b], h) := Xr hs hl
theorem SU {t : TypeId} {m : Option Nat} {k v : AA} {b : Bool} (hs : WI fr op = some (t, m, k, false)) (hl : TK C.P h t m k = some (v, b)) : Bb C S g h fr op = some (v, h) := Xr hs hl
def Xi (P : Program) (g : Gd) (h : AH) (t : TypeId) (m : Option Nat) (k v : AA) : Option AH := Gb P g h t (.map m) k v
def YM (fr : Fr) : Op → Option (TypeId × Option Nat × AA × AA)
 | .mapUpdate t m k v | .insert t m k v =>
  match ev fr m with
  | .map m => some (t, m, ev fr k, ev fr v)
  | _ => none
 | _ => none
theorem UG {t : TypeId} {m : Option Nat} {k v : AA} {h' : AH} (hs : YM fr op = some (t, m, k, v)) (hl : Xi C.P g h t m k v = some h') : Bb C S g h fr op = some (.tuple [], h') := by
 unfold Xi at hl
 unfold YM at hs
 split at hs
 ·split at hs
  ·rename_i hx
   simp only [Option.some.injEq, Prod.mk.injEq] at hs
   obtain ⟨rfl, rfl, rfl, rfl⟩ := hs
   simp [Bb, IV, BC, Km, hx, hl]
  ·cases hs
 ·split at hs
  ·rename_i hx
   simp only [Option.some.injEq, Prod.mk.injEq] at hs
   obtain ⟨rfl, rfl, rfl, rfl⟩ := hs
   simp [Bb, IV, BC, Km, hx, hl]
  ·cases hs
 ·cases hs
def YY (h : AH) (m : Option Nat) : Option Int := (Vg h m).map fun es => (es.length : Int)
def Va (P : Program) (fr : Fr) : Op → Option (Option Nat)
 | .call { callee := .builtin .len, args := as, argTypes := ts } =>
  match as.toList, ts[0]? with
  | [x], some t =>
   match P.underlying t, ev fr x with
   | some (.map _ _), .map m => some m
   | _, _ => none
  | _, _ => none
 | _ => none
end
@[irreducible] def ZV : Nat := 4611686018427387904
def cap {α β : Type} (as : AA → Option α) (rest : List AA → Option β) : List AA → Option (α × β)
 | v :: l => (as v).bind fun x => (rest l).map fun y => (x, y)
 | [] => none
end Go.Av
