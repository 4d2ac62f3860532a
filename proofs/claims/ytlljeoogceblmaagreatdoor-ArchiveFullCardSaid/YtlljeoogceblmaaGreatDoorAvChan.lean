/-
  Several texts in one.
-/
import Derived.Test.YtlljeoogceblmaaGreatDoorAvTy
/-
 A part.
-/
section
namespace Go.Av
set_option linter.unusedVariables false
set_option linter.unusedSimpArgs false
section
variable {α : Type} {g : Gd} {h : AF} {L F : List Ck}
theorem UM {ws : List α} {i : Int} {x : α} (D : Ii ws i = some x) : 0 ≤ i ∧ i.toNat < ws.length ∧ ws[i.toNat]? = some x := by
 unfold Ii at D
 split at D
 ·exact ⟨by omega, (List.getElem?_eq_some_iff.1 D).1, D⟩
 ·cases D
end
section
variable {C : E8} {S : Self} {g : Gd} {h : AF} {fr : Fr} {op : Op}
def UX (P : Program) (fr : Fr) : Op → Option (List AB × Nat × Int)
 | .index t x i =>
  match P.underlying t, ev fr x, ev fr i with
  | some (.array n e), .agg cs, .int _ i =>
   match Ig P e, CQ P e with
   | some false, some 1 => some (cs, n, i)
   | _, _ => none
  | _, _, _ => none
 | _ => none
theorem Rw {α : Type} (f : α → AB) (ws : List α) {cs : List AB} {n : Nat} {i : Int} {x : α} (B : UX C.P fr op = some (cs, n, i)) (J : cs = ws.map f) (M : ws.length = n) (D : Ii ws i = some x) : BO C S g h fr op = some (f x, h) := by
 obtain ⟨h1, h2, Q⟩ := UM D
 unfold UX at B
 split at B
 ·split at B
  ·rename_i hu H hi
   split at B
   ·rename_i O G
    simp only [Option.some.injEq, Prod.mk.injEq] at B
    have e : ∀ j : Nat, ws[j]? = some x → (ws.map f)[j]? = some (f x) := fun j hj => by rw [List.getElem?_map, hj]; rfl
    obtain ⟨e1, e2, e3⟩ := B
    subst e1 e2 e3
    simp only [BO, Gp, BA, IP, MJ, hu, H, hi, G, Option.bind_some, Nat.mul_one]
    rw [if_pos ⟨h1, by omega⟩]
    simp only [II, O, J, e _ Q, Option.map_some]
   ·cases B
  ·cases B
 ·cases B
def Sq (P : Program) (fr : Fr) : Op → Option (List AB × Nat × Nat × Int)
 | .index t x i =>
  match P.underlying t, ev fr x, ev fr i with
  | some (.array n e), .agg cs, .int _ i =>
   match Ig P e, CQ P e with
   | some true, some z => some (cs, n, z, i)
   | _, _ => none
  | _, _, _ => none
 | _ => none
theorem Qy {α : Type} {e : α → List AB} {z : Nat} (E : Jh e z) : ∀ (ws : List α) (j : Nat) (x : α), ws[j]? = some x → j * z + z ≤ (AQ e ws).length ∧ ((AQ e ws).drop (j * z)).take z = e x
 | [], j, x, h => by simp at h
 | w :: r, 0, x, h => by
  have hw : w = x := by simpa using h
  subst hw
  have T := E.len w
  have e1 : AQ e (w :: r) = e w ++ AQ e r := rfl
  refine ⟨by rw [e1, List.length_append]; omega, ?_⟩
  rw [e1, Nat.zero_mul, List.drop_zero, List.take_append_of_le_length (by omega), List.take_of_length_le (by omega)]
 | w :: r, j + 1, x, h => by
  obtain ⟨h1, h2⟩ := Qy E r j x (by simpa using h)
  have T := E.len w
  have e1 : AQ e (w :: r) = e w ++ AQ e r := rfl
  have e2 : (j + 1) * z = z + j * z := by rw [Nat.add_mul, Nat.one_mul, Nat.add_comm]
  refine ⟨by rw [e1, List.length_append, e2]; omega, ?_⟩
  rw [e1, e2, List.drop_append, List.drop_of_length_le (by omega), List.nil_append, T, Nat.add_sub_cancel_left]
  exact h2
theorem KW {α : Type} {e : α → List AB} {z : Nat} (E : Jh e z) (ws : List α) {cs : List AB} {n : Nat} {i : Int} {x : α} (B : Sq C.P fr op = some (cs, n, z, i)) (J : cs = AQ e ws) (M : ws.length = n) (D : Ii ws i = some x) : BO C S g h fr op = some (.agg (e x), h) := by
 obtain ⟨h1, h2, Q⟩ := UM D
 obtain ⟨h4, h5⟩ := Qy E ws _ _ Q
 unfold Sq at B
 split at B
 ·split at B
  ·rename_i hu H hi
   split at B
   ·rename_i O G
    simp only [Option.some.injEq, Prod.mk.injEq] at B
    obtain ⟨e1, e2, e3, e4⟩ := B
    subst e1 e2 e3 e4
    simp only [BO, Gp, BA, IP, MJ, hu, H, hi, G, Option.bind_some]
    rw [if_pos ⟨h1, by omega⟩]
    simp only [II, O, G, Option.bind_some, J, if_pos h4, h5, Option.map_some]
   ·cases B
  ·cases B
 ·cases B
end
end Go.Av
end
/-
 A part.
-/
section
namespace Go.Av
set_option linter.unusedSimpArgs false
set_option linter.unusedVariables false
def MI (g : Gd) (h : AF) (id : Nat) (x : AB) : Option (AB × AF) :=
 match h.get id with
 | some (.chan cap buf) =>
  bif Nat.ble cap buf.length then some (.tuple [.int .i64 (-1), .bool false], h)
  else bif g.may id then some (.tuple [.int .i64 0, .bool false], h.set id (.chan cap (buf ++ [x])))
  else none
 | _ => none
def L8 (g : Gd) (h : AF) (id : Nat) (z : AB) : Option (AB × AF) :=
 match h.get id with
 | some (.chan cap buf) =>
  match buf with
  | v :: rest => bif g.may id then some (.tuple [.int .i64 0, .bool true, v], h.set id (.chan cap rest)) else none
  | [] => some (.tuple [.int .i64 (-1), .bool false, z], h)
 | _ => none
def T1 (P : Program) (fr : Fr) : Op → Option (Nat × AB)
 | .select cases false =>
  match cases.toList with
  | [c] =>
   match Fm P c.elem, ev fr c.chan, c.send with
   | some _, .chan (some id), some x => some (id, ev fr x)
   | _, _, _ => none
  | _ => none
 | _ => none
def TZ (P : Program) (fr : Fr) : Op → Option (Nat × AB)
 | .select cases false =>
  match cases.toList with
  | [c] =>
   match Fm P c.elem, ev fr c.chan, c.send with
   | some z, .chan (some id), none => some (id, z)
   | _, _, _ => none
  | _ => none
 | _ => none
def TO (P : Program) (fr : Fr) : Op → Option Nat
 | .call { callee := .builtin .len, args := as, argTypes := ts } =>
  match as.toList, ts[0]? with
  | [x], some t =>
   match P.underlying t, ev fr x with
   | some (.chan _ _), .chan (some id) => some id
   | _, _ => none
  | _, _ => none
 | _ => none
section
variable {P : Program} {g : Gd} {h h1 : AF} {fr : Fr} {op : Op} {L F : List Ck}
theorem Qf {id : Nat} {x : AB} {r : AB × AF} (B : T1 P fr op = some (id, x)) (D : MI g h id x = some r) : OS P g h fr op = some r := by
 unfold T1 at B
 split at B
 ·rename_i cases0
  split at B
  ·rename_i c hc
   split at B
   ·rename_i z id' x' G he I
    injection B with B; injection B with e1 e2; subst e1; subst e2
    unfold OS
    simp only [hc, G, he, I]
    unfold MI at D
    split at D
    ·rename_i cap buf K; rw [K]; exact D
    ·cases D
   ·cases B
  ·cases B
 ·cases B
theorem QL {id : Nat} {z : AB} {r : AB × AF} (B : TZ P fr op = some (id, z)) (D : L8 g h id z = some r) : OS P g h fr op = some r := by
 unfold TZ at B
 split at B
 ·rename_i cases0
  split at B
  ·rename_i c hc
   split at B
   ·rename_i z' id' G he I
    injection B with B; injection B with e1 e2; subst e1; subst e2
    unfold OS
    simp only [hc, G, he, I]
    unfold L8 at D
    split at D
    ·rename_i cap buf K; rw [K]; exact D
    ·cases D
   ·cases B
  ·cases B
 ·cases B
theorem XQ {C : E8} {S : Self} {id cap : Nat} {buf : List AB} {n : Int} (B : TO C.P fr op = some id) (K : h.get id = some (.chan cap buf)) (M : (buf.length : Int) = n) : BO C S g h fr op = some (.int .i64 n, h) := by
 unfold TO at B
 split at B
 ·rename_i as ts
  split at B
  ·rename_i x t D R
   split at B
   ·rename_i hu he
    injection B with B; subst B
    have hc : BA C.P (.call { callee := .builtin .len, args := as, argTypes := ts }) = 1 := by simp [BA, R, hu]
    unfold BO
    simp only [Gp, hc, Cq, D, he, Dd, K, Ih, VE, R, hu]
    rw [← M]; rfl
   ·cases B
  ·cases B
 ·cases B
variable {α : Type} {e : α → List AB}
theorem HH.Xt (E : Jh e 1) (a : HH g h L F) (k : Nat) {id cap : Nat} {xs : List α} (hk : L[k]? = some (.obj id (.chan cap (AQ e xs)))) : h.get id = some (.chan cap (AQ e xs)) ∧ ((AQ e xs).length : Int) = (xs.length : Int) :=
 ⟨a.get k hk, by rw [E.Gb, Nat.mul_one]⟩
theorem HH.Ur (E : Jh e 1) (a : HH g h L F) (k : Nat) {id cap : Nat} {xs : List α} {x : α} {v : AB} (hk : L[k]? = some (.obj id (.chan cap (AQ e xs)))) (H : e x = [v]) (N : Nat.blt xs.length cap = true) :
  ∃ h1, MI g h id v = some (.tuple [.int .i64 0, .bool false], h1) ∧ HH g h1 (L.set k (.obj id (.chan cap (AQ e (xs ++ [x]))))) F := by
 refine ⟨_, ?_, a.set k _ hk⟩
 unfold MI
 simp only [a.get k hk, E.Gb, Nat.mul_one]
 have : Nat.ble cap xs.length = false := by
  rw [Nat.blt_eq] at N
  rw [← Bool.not_eq_true, Nat.ble_eq]; omega
 rw [this, a.Jf hk (by simp [Ck.ids])]
 simp [AQ, H]
theorem HH.T9 (E : Jh e 1) (a : HH g h L F) (k : Nat) {id cap : Nat} {xs : List α} {v : AB} (hk : L[k]? = some (.obj id (.chan cap (AQ e xs)))) (N : Nat.blt xs.length cap = false) :
  MI g h id v = some (.tuple [.int .i64 (-1), .bool false], h) := by
 unfold MI
 simp only [a.get k hk, E.Gb, Nat.mul_one]
 have : Nat.ble cap xs.length = true := by
  rw [Nat.ble_eq]
  rw [← Bool.not_eq_true, Nat.blt_eq] at N; omega
 rw [this]; rfl
def Yj {α : Type} : List α → Option (α × List α)
 | [] => none
 | x :: r => some (x, r)
theorem We {α : Type} {xs r : List α} {x : α} (h : Yj xs = some (x, r)) : xs = x :: r := by
 cases xs with
 | nil => cases h
 | cons y l => injection h with h; injection h with h1 h2; rw [h1, h2]
theorem HH.Tw (E : Jh e 1) (a : HH g h L F) (k : Nat) {id cap : Nat} {xs ys : List α} {x : α} {v z : AB} (hk : L[k]? = some (.obj id (.chan cap (AQ e xs)))) (D : Yj xs = some (x, ys)) (H : e x = [v]) :
  ∃ h1, L8 g h id z = some (.tuple [.int .i64 0, .bool true, v], h1) ∧ HH g h1 (L.set k (.obj id (.chan cap (AQ e ys)))) F := by
 obtain rfl := We D
 refine ⟨_, ?_, a.set k _ hk⟩
 unfold L8
 have e1 : AQ e (x :: ys) = v :: AQ e ys := by simp [AQ, H]
 simp only [a.get k hk, e1]
 rw [a.Jf hk (by simp [Ck.ids])]
 rfl
theorem HH.Tp (a : HH g h L F) (k : Nat) {id cap : Nat} {xs : List α} {z : AB} (hk : L[k]? = some (.obj id (.chan cap (AQ e xs)))) (D : xs.isEmpty = true) :
  L8 g h id z = some (.tuple [.int .i64 (-1), .bool false, z], h) := by
 obtain rfl := List.isEmpty_iff.1 D
 unfold L8
 simp only [a.get k hk]
 rfl
end
end Go.Av
end
