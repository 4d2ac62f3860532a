/-
 A part.
-/
import Derived.Test.YtdjbadhilkmiiaaGreatDoorAvHH
namespace Go.Av
set_option linter.unusedVariables false
structure Ld {α : Type} (e : α → List AB) (z : Nat) : Prop where
 len : ∀ x, (e x).length = z
 one : ∀ x, (e x).all AB.one = true
 can : ∀ x, (e x).map GY = e x
abbrev AK {α : Type} (e : α → List AB) (xs : List α) : List AB := xs.flatMap e
abbrev vs {α : Type} (e : α → List AB) (xs : List α) : AB := .HE xs.length (AK e xs)
def eI (k : IntKind) (x : Int) : List AB := [.int k x]
def eB (x : Bool) : List AB := [.bool x]
def eS (x : List UInt8) : List AB := [.str x]
def eY (x : UInt8) : List AB := [.int .u8 x.toNat]
theorem encI (k : IntKind) : Ld (eI k) 1 := ⟨fun _ => rfl, fun _ => rfl, fun _ => rfl⟩
theorem Vn : Ld eB 1 := ⟨fun _ => rfl, fun _ => rfl, fun _ => rfl⟩
theorem encS : Ld eS 1 := ⟨fun _ => rfl, fun _ => rfl, fun _ => rfl⟩
theorem G8 : Ld eY 1 := ⟨fun _ => rfl, fun _ => rfl, fun _ => rfl⟩
section
variable {α : Type} {e : α → List AB} {z : Nat}
theorem Ld.J5 (E : Ld e z) : ∀ xs : List α, (AK e xs).length = xs.length * z
 | [] => by simp
 | x :: xs => by simp only [AK, List.flatMap_cons, List.length_append, E.len, List.length_cons]; rw [show (List.flatMap e xs).length = xs.length * z from E.J5 xs, Nat.add_mul]; omega
theorem Ld.Vw (E : Ld e z) (xs : List α) : (AK e xs).all AB.one = true := by
 rw [List.all_eq_true]
 intro v hv
 obtain ⟨x, _, hx⟩ := List.mem_flatMap.1 hv
 exact List.all_eq_true.1 (E.one x) v hx
theorem Ld.Ba (E : Ld e z) : ∀ xs : List α, (AK e xs).map GY = AK e xs
 | [] => rfl
 | x :: xs => by simp only [AK, List.flatMap_cons, List.map_append, E.can]; rw [show (List.flatMap e xs).map GY = _ from E.Ba xs]
theorem Ld.take (E : Ld e z) : ∀ (xs : List α) (n : Nat), (AK e xs).take (n * z) = AK e (xs.take n)
 | [], n => by simp
 | x :: xs, 0 => by simp
 | x :: xs, n + 1 => by
  simp only [AK, List.flatMap_cons, List.take_succ_cons]
  rw [Nat.add_mul, Nat.one_mul, Nat.add_comm, ← E.len x, List.take_length_add_append, E.len x]
  congr 1
  exact E.take xs n
theorem Ld.drop (E : Ld e z) : ∀ (xs : List α) (n : Nat), (AK e xs).drop (n * z) = AK e (xs.drop n)
 | [], n => by simp
 | x :: xs, 0 => by simp
 | x :: xs, n + 1 => by
  simp only [AK, List.flatMap_cons, List.drop_succ_cons]
  rw [Nat.add_mul, Nat.one_mul, Nat.add_comm, ← E.len x, List.drop_length_add_append, E.len x]
  exact E.drop xs n
theorem Ld.at_ (E : Ld e z) {xs : List α} {i : Nat} {x : α} (h : xs[i]? = some x) : ((AK e xs).drop (i * z)).take z = e x := by
 obtain ⟨hi, hx⟩ := List.getElem?_eq_some_iff.1 h
 rw [E.drop, List.drop_eq_getElem_cons hi, hx]
 simp only [AK, List.flatMap_cons]
 rw [← E.len x, List.take_left]
end
def HO {α : Type} (xs : List α) (i : Int) : Option α := if 0 ≤ i then xs[i.toNat]? else none
section
variable (P : Program) (fr : Fr)
def VP : Op → Option (Nat × List AB × Nat × Int)
 | .indexAddr t x i =>
  match P.underlying t, ev fr x, ev fr i with
  | some (.slice e), .HE n cs, .int _ i => (DD P e).map fun z => (n, cs, z, i)
  | _, _, _ => none
 | _ => none
def XB : Op → Option AB
 | .load t a =>
  match ev fr a with
  | .BR cs => Gb P (some (.cells none 1 cs)) t 0
  | _ => none
 | _ => none
def Pt : Op → Option (Nat × List AB)
 | .call { callee := .value x, args := as, .. } =>
  match ev fr x with
  | .M4 l => some (l, as.toList.map (ev fr))
  | _ => none
 | _ => none
end
section
variable {C : HS} {S : Self} {g : Gd} {h h1 : AJ} {fr : Fr} {op : Op} {α : Type} {e : α → List AB} {z : Nat}
theorem RM {xs : List α} {i : Int} {x : α} (E : Ld e z) (hz : z ≠ 0) (hs : VP C.P fr op = some (xs.length, AK e xs, z, i)) (hl : HO xs i = some x) : Bs C S g h fr op = some (.BR (e x), h) := by
 unfold VP at hs
 split at hs
 ·rename_i t y j
  split at hs
  ·rename_i el n cs k i' hu hv hi
   simp only [Option.map_eq_some_iff, Prod.mk.injEq] at hs
   obtain ⟨z', hz', rfl, rfl, rfl, rfl⟩ := hs
   unfold HO at hl
   split at hl
   ·rename_i h0
    have hlt := (List.getElem?_eq_some_iff.1 hl).1
    rw [Ft (by simp [BX])]
    simp only [Iw, BX, Iz, hv, hi, GX, hu]
    rw [if_pos ⟨h0, by omega⟩, hz', Option.bind_some, if_pos ⟨E.J5 xs, hz⟩, E.at_ hl]
    rfl
   ·cases hl
  ·cases hs
 ·cases hs
theorem Lp {v : AB} (hs : XB C.P fr op = some v) : Bs C S g h fr op = some (v, h) := by
 unfold XB at hs
 split at hs
 ·split at hs
  ·rename_i cs hv
   rw [Ft (by simp [BX])]
   simp only [Iw, BX, Dw, hv, FE, KK, hs, Option.map_some]
  ·cases hs
 ·cases hs
theorem Nw : ∀ l : List UInt8, bytesOf (AK eY l) = some l
 | [] => rfl
 | b :: l => by
  simp only [AK, List.flatMap_cons, eY, List.singleton_append, bytesOf]
  rw [show bytesOf (List.flatMap eY l) = some l from Nw l]
  simp
end
section
variable {g : Gd} {h : AJ} {L F : List Ck} {α : Type} {e : α → List AB} {z : Nat}
theorem HH.to {h' : AJ} (a : HH g h L F) (e : h' = h) : HH g h' L F := e ▸ a
theorem HH.Uf (E : Ld e z) (hz : z ≠ 0) (a : HH g h L F) (k : Nat) {r : Option Nat} {t : TypeId} {xs : List α} (hk : L[k]? = some (.AK r t (AK e xs))) : Dz h z xs.length (AH r xs.length) = some (AK e xs) := Cl a k hk (E.J5 xs) hz
theorem Py (E : Ld e z) (h : AJ) (xs : List α) : Dz h z xs.length (vs e xs) = some (AK e xs) := by
 unfold Dz vs
 simp only
 rw [if_pos ⟨Nat.le_refl _, E.J5 xs⟩, List.take_of_length_le (by rw [E.J5 xs]; exact Nat.le_refl _)]
def Lw (bytes n : Nat) : Bool := decide (n ≤ 1099511627776 ∧ n * bytes ≤ 1099511627776)
theorem HH.J2 (E : Ld e z) (hz : z ≠ 0) (a : HH g h L F) (k : Nat) {r : Option Nat} {t : TypeId} {xs ys : List α} {new : List AB} {bytes m : Nat} {x : AB} (hk : L[k]? = some (.AK r t (AK e xs))) (hx : Dz h z m x = some new) (hc : new.map GY = AK e ys) (hm : m = ys.length) (hb : Lw bytes (xs.length + m) = true) :
  ∃ r' h', Av.app t z bytes g h (De r xs.length) m x = some (De r' (xs ++ ys).length, h') ∧ HH g h' (L.set k (.AK r' t (AK e (xs ++ ys)))) F := by
 subst hm
 obtain ⟨r', h', h1, h2⟩ := a.app k hk (E.J5 xs) hz hx hc (E.J5 ys) (of_decide_eq_true hb) (E.Vw xs) (E.Vw ys)
 refine ⟨r', h', by rw [h1, List.length_append], ?_⟩
 have : AK e (xs ++ ys) = AK e xs ++ AK e ys := by simp [AK]
 rw [this]; exact h2
theorem HH.Nk (E : Ld e z) (hz : z ≠ 0) (a : HH g h L F) (k : Nat) {r : Option Nat} {t : TypeId} {xs : List α} (hk : L[k]? = some (.AK r t (AK e xs))) {i : Int} {x : α} (hi : HO xs i = some x) :
  ∃ id, r = some id ∧ h.get id = some (.cells (some t) 2 (AK e xs)) ∧ XI (De r xs.length) z i = some (id, i.toNat * z) ∧ xs[i.toNat]? = some x := by
 unfold HO at hi
 split at hi
 ·rename_i h0
  have hlt := (List.getElem?_eq_some_iff.1 hi).1
  cases r with
  | none =>
   have hn : AK e xs = [] := a.mem hk
   exfalso
   have h1 := E.J5 xs
   rw [hn] at h1
   have h2 : xs.length * z = 0 := by simpa using h1.symm
   rcases Nat.mul_eq_zero.1 h2 with h | h
   ·omega
   ·exact hz h
  | some id =>
   refine ⟨id, rfl, a.mem hk, ?_, hi⟩
   simp only [De, Option.map_some, XI]
   rw [Ul, if_pos ⟨h0, by omega⟩]
   simp
 ·cases hi
theorem HH.row (a : HH g h L F) (k : Nat) {r : Option Nat} {t : TypeId} {cs : List AB} (hk : L[k]? = some (.AK r t cs)) {id : Nat} (er : r = some id) : h.get id = some (.cells (some t) 2 cs) := by
 subst er; exact a.mem hk
theorem LG (E : Ld e z) {id : Nat} {gr : Option TypeId} {xs : List α} (hg : h.get id = some (.cells gr 2 (AK e xs))) {i : Nat} {x : α} (hx : xs[i]? = some x) (o n : Nat) (hon : o + n ≤ z) : F5 h (id, i * z + o) n = some (((e x).drop o).take n) := by
 have hi := (List.getElem?_eq_some_iff.1 hx).1
 have hle : (i + 1) * z ≤ xs.length * z := Nat.mul_le_mul_right _ (by omega)
 rw [Nat.add_mul, Nat.one_mul] at hle
 unfold Av.F5 DF
 simp only [hg]
 rw [if_pos ⟨by simp, by rw [E.J5 xs]; omega⟩, ← E.at_ hx, ← List.drop_drop]
 congr 1
 generalize (AK e xs).drop (i * z) = l
 rw [List.drop_take, List.take_take, Nat.min_eq_left (by omega)]
theorem Fw (E : Ld e z) {id : Nat} {gr : Option TypeId} {xs : List α} (hg : h.get id = some (.cells gr 2 (AK e xs))) {i : Nat} {x : α} (hx : xs[i]? = some x) {o : Nat} {v : AB} (hv : (e x)[o]? = some v) : Ni h (id, i * z + o) = some v := by
 have ho := (List.getElem?_eq_some_iff.1 hv).1
 have h1 := LG E hg hx o 1 (by rw [E.len] at ho; omega)
 unfold Av.F5 at h1
 unfold Av.Ni
 rw [h1, List.drop_eq_getElem_cons ho, (List.getElem?_eq_some_iff.1 hv).2]
 rfl
theorem R3 {A m B new : List AB} {o : Nat} (h : o + new.length ≤ m.length) : Dv (A ++ (m ++ B)) (A.length + o) new = A ++ (Dv m o new ++ B) := by
 unfold Dv
 have e1 : (A ++ (m ++ B)).take (A.length + o) = A ++ m.take o := by
  rw [List.take_length_add_append, List.take_append_of_le_length (by omega)]
 have e2 : (A ++ (m ++ B)).drop (A.length + o + new.length) = m.drop (o + new.length) ++ B := by
  rw [Nat.add_assoc, List.drop_length_add_append, List.drop_append_of_le_length (by omega)]
 rw [e1, e2]
 simp [List.append_assoc]
theorem HH.WY (E : Ld e z) (a : HH g h L F) (k : Nat) {r : Option Nat} {t : TypeId} {xs : List α} (hk : L[k]? = some (.AK r t (AK e xs))) {id : Nat} (er : r = some id) {i : Nat} {x y : α} (hx : xs[i]? = some x) {o : Nat} {new : List AB} (hs : Dv (e x) o new = e y) (h1 : new.all AB.one = true) (hl : o + new.length ≤ z := by decide) :
  ∃ h', Av.st g h (id, i * z + o) new = some h' ∧ HH g h' (L.set k (.AK r t (AK e (xs.set i y)))) F := by
 have hg := a.row k hk er
 have hi := (List.getElem?_eq_some_iff.1 hx).1
 have hid := h.Ct hg
 have hle : (i + 1) * z ≤ xs.length * z := Nat.mul_le_mul_right _ (by omega)
 rw [Nat.add_mul, Nat.one_mul] at hle
 have hm : g.may id = true := a.P0 hk (by rw [er]; simp [Ck.ids])
 refine ⟨h.set id (.cells (some t) 2 (AK e (xs.set i y))), ?_, ?_⟩
 ·unfold Av.st Db
  simp only [hg]
  rw [if_pos ⟨hm, by rw [E.J5 xs]; omega, h1⟩]
  congr 2
  have hsplit : AK e xs = AK e (xs.take i) ++ (e x ++ AK e (xs.drop (i + 1))) := by
   conv => lhs; rw [← List.take_append_drop i xs, List.drop_eq_getElem_cons hi, (List.getElem?_eq_some_iff.1 hx).2]
   simp [AK]
  have hlen : (AK e (xs.take i)).length = i * z := by rw [E.J5, List.length_take, Nat.min_eq_left (by omega)]
  have hset : AK e (xs.set i y) = AK e (xs.take i) ++ (e y ++ AK e (xs.drop (i + 1))) := by
   rw [List.set_eq_take_append_cons_drop, if_pos hi]
   simp [AK]
  rw [hsplit, hset, ← hlen, R3 (by rw [E.len]; exact hl), hs]
 ·subst er
  refine a.S4 hk (by simp) (fun j _ hj => h.Dj _ hid (by simpa [Ck.ids] using hj)) (h.EI _ hid) (fun j hj => .inl hj) (fun j hj => a.P0 hk hj)
theorem JU {h1 : AJ} {a : Nat × Nat} {cs : List AB} {n : Nat} (hs : st g h a cs = some h1) (hl : cs.length = n) : XK n g h a cs = some h1 := by unfold XK; rw [if_pos hl]; exact hs
theorem WK (h : AJ) (z : Nat) : Dz h z 0 (.slice none 0) = some [] := rfl
def TG (c : Int) : Option UInt8 := if 0 ≤ c ∧ c ≤ 255 then some (UInt8.ofNat c.toNat) else none
theorem Li {c : Int} {y : UInt8} (h : TG c = some y) : c = (y.toNat : Int) := by
 unfold TG at h
 split at h
 ·rename_i hc
  injection h with h
  subst h
  have : (UInt8.ofNat c.toNat).toNat = c.toNat % 256 := UInt8.toNat_ofNat'
  rw [this]; omega
 ·cases h
theorem PI {C : HS} {S : Self} {fr : Fr} {op : Op} {xs : List UInt8} (a : HH g h L F) (k : Nat) {r : Option Nat} {t : TypeId} (hk : L[k]? = some (.AK r t (AK eY xs))) (hs : UP C.P fr op = some ((De r xs.length).r, xs.length)) : Bs C S g h fr op = some (.str xs, h) := by
 refine W2 (s := De r xs.length) hs ?_
 have hok := a.mem hk
 unfold Xq De
 cases r with
 | none =>
  have : AK eY xs = [] := hok
  have h1 := G8.J5 xs
  rw [this] at h1
  have : xs = [] := List.eq_nil_of_length_eq_zero (by simpa using h1.symm)
  subst this
  rfl
 | some id =>
  have hg : h.get id = some (.cells (some t) 2 (AK eY xs)) := hok
  simp only [Option.map_some]
  by_cases h0 : xs.length = 0
  ·have : xs = [] := List.eq_nil_of_length_eq_zero h0
   subst this
   rw [if_pos h0, hg]
   rfl
  ·rw [if_neg h0]
   unfold DF
   simp only [hg]
   have h1 := G8.J5 xs
   rw [if_pos ⟨by simp, by rw [h1]; omega⟩, List.drop_zero, List.take_of_length_le (by rw [h1]; omega)]
   exact Nw xs
def XO (bytes : Nat) (n : Int) : Bool := decide (0 ≤ n ∧ n ≤ 1099511627776 ∧ bytes * n ≤ 1099511627776)
theorem NK {x : α} : ∀ n, FO (e x) n = AK e (List.replicate n x)
 | 0 => rfl
 | n + 1 => by rw [List.replicate_succ, AK, List.flatMap_cons, FO, NK n]
theorem TX {C : HS} {S : Self} {fr : Fr} {op : Op} {h1 : AJ} {t : TypeId} {bytes : Nat} {n : Int} {x : α} (E : Ld e z) (hs : Ut C.P fr op = some (t, bytes, e x, n, n)) (hb : XO bytes n = true) (hh : some (h.push (.cells (some t) 2 (AK e (List.replicate n.toNat x)))) = some h1) :
  Bs C S g h fr op = some (AH (some h.size) (List.replicate n.toNat x).length, h1) := by
 have hb := of_decide_eq_true hb
 have := W9 (S := S) (g := g) hs (cs := AK e (List.replicate n.toNat x)) (by unfold XP; rw [if_pos ⟨hb.1, Int.le_refl _, hb.2.1, hb.2.2⟩, NK]) hh
 rw [this, List.length_replicate]
 rfl
end
section
variable {g : Gd} {h h' : AJ} {L F : List Ck}
theorem HH.Kw (a : HH g h L F) (n : Nat) : HH g h (L.take n) F := by
 have hs : (CV (L.take n ++ F)).Sublist (CV (L ++ F)) := by
  rw [CZ, CZ]
  refine List.Sublist.append ?_ (List.Sublist.refl _)
  conv => rhs; rw [← List.take_append_drop n L, CZ]
  exact List.sublist_append_left _ _
 exact ⟨fun c hc => a.ok c (by rcases List.mem_append.1 hc with h | h; exact List.mem_append.2 (.inl (List.mem_of_mem_take h)); exact List.mem_append.2 (.inr h)), a.nd.sublist hs,
  fun i hi => a.may i (by rw [← List.take_append_drop n L, CZ]; exact List.mem_append.2 (.inl hi)), a.Bo, a.floor⟩
inductive R8 (R : List Ck) : List Nat → Prop where
 | nil : R8 R []
 | cons {p : Nat} {ps : List Nat} {c : Ck} (k : Nat) : R[k]? = some c → p ∈ c.ids → R8 R ps → R8 R (p :: ps)
theorem R8.mem {R : List Ck} {ps : List Nat} (h : R8 R ps) : ∀ p ∈ ps, p ∈ CV R := by
 induction h with
 | nil => intro p hp; cases hp
 | cons k hk hm _ ih =>
  intro p hp
  rcases List.mem_cons.1 hp with rfl | hp
  ·simp only [CV, List.mem_flatMap]; exact ⟨_, List.mem_of_getElem? hk, hm⟩
  ·exact ih p hp
theorem HH.Hz (a : HH g h L F) (n : Nat) {pr : List Nat} (hp : R8 (L.drop n) pr) : HH ⟨g.floor, pr ++ g.Bo⟩ h (L.take n) (L.drop n ++ F) := by
 refine (a.cut n).Wa (fun i hi hn => ?_) (fun i hi => ?_)
 ·have h1 := hp.mem i hn
  have h2 := a.nd
  rw [← List.take_append_drop n L, CZ, CZ, List.append_assoc, List.nodup_append] at h2
  exact h2.2.2 i hi i (List.mem_append.2 (.inl h1)) rfl
 ·refine a.lt (i := i) ?_
  rw [← List.take_append_drop n L, CZ, CZ]
  exact List.mem_append.2 (.inl (List.mem_append.2 (.inr (hp.mem i hi))))
theorem HH.Si {pr : List Nat} {n : Nat} {L' : List Ck} (a : HH g h L F) (b : HH ⟨g.floor, pr ++ g.Bo⟩ h' L' (L.drop n ++ F)) : HH g h' (L' ++ L.drop n) F :=
 a.glue b (fun i hm => by
  simp only [Gd.may, Bool.and_eq_true, Bool.not_eq_true', List.any_append, Bool.or_eq_false_iff] at hm ⊢
  exact ⟨hm.1, hm.2.2⟩) (fun i hi => List.mem_append.2 (.inr hi)) rfl
end
section
variable {C : HS} {g : Gd} {h : AJ} {f : FuncId}
theorem No {args : List AB} {n : Nat} {rs : List ResultVar} {R : AB → AJ → Prop} (hf : IB C.P f = some (n, rs))
  (hh : AW C f g (LW C.P f) (args ++ List.replicate (n - args.length) (.tuple [])) h (fun e fr h' => (e = .ret ∨ e = .normal) ∧ ∃ v, LL C.P rs fr h' = some v ∧ R v h')) : ∃ v h', Jn C g h f args v h' ∧ R v h' := by
 obtain ⟨m, e, fr', h2, hx, ⟨hq, v, hv, hR⟩⟩ := hh.ex
 exact ⟨v, h2, VB hf ⟨⟨m, e, fr', h2, hx, ⟨hq, hv, rfl⟩⟩⟩, hR⟩
theorem WT {args args' : List AB} {n : Nat} {rs : List ResultVar} {R : AB → AJ → Prop} (hk : C.kind f = 1) (hc : Ba (C.still f) args = args') (hf : IB C.P f = some (n, rs))
  (hh : AW C f g (LW C.P f) (args' ++ List.replicate (n - args'.length) (.tuple [])) h (fun e fr h' => (e = .ret ∨ e = .normal) ∧ ∃ v, LL C.P rs fr h' = some v ∧ R v h')) : ∃ v h', Bi C g h f args v h' ∧ R v h' := by
 obtain ⟨v, h', hb, hR⟩ := No hf hh
 exact ⟨v, h', XA hk hc hb, hR⟩
theorem WD {args args' : List AB} {n : Nat} {rs : List ResultVar} {R : AB → AJ → Prop} (hk : C.kind f = 7) (hc : Ba (C.still f) args = args') (hf : IB C.P f = some (n, rs))
  (hh : AW C f g (LW C.P f) (args' ++ List.replicate (n - args'.length) (.tuple [])) h (fun e fr h' => (e = .ret ∨ e = .normal) ∧ ∃ v, LL C.P rs fr h' = some v ∧ ∃ v' h'', Oi g h' v = some (v', h'') ∧ R v' h'')) : ∃ v h', Bi C g h f args v h' ∧ R v h' := by
 obtain ⟨v, h', hb, v', h'', hz, hR⟩ := No hf hh
 exact ⟨v', h'', XC hk hc hb hz, hR⟩
theorem WB {args args' : List AB} {n : Nat} {rs : List ResultVar} {R : AB → AJ → Prop} (hk : C.kind f = 9) (hc : Ba (C.still f) args = args') (hf : IB C.P f = some (n, rs))
  (hh : AW C f g (LW C.P f) (args' ++ List.replicate (n - args'.length) (.tuple [])) h (fun e fr h' => (e = .ret ∨ e = .normal) ∧ ∃ v, LL C.P rs fr h' = some v ∧ ∃ v' h'', Qy g h' v = some (v', h'') ∧ R v' h'')) : ∃ v h', Bi C g h f args v h' ∧ R v h' := by
 obtain ⟨v, h', hb, v', h'', hz, hR⟩ := No hf hh
 exact ⟨v', h'', Wg hk hc hb hz, hR⟩
theorem XV {P : Program} {fr : Fr} {N : Nat} {l : List (Nat × AB)} {rs : List ResultVar} {v : AB} (H : Has fr N l) (hr : ∀ fr, LL P rs (DG N l fr) h = some v) : LL P rs fr h = some v := by
 have := hr fr
 rwa [E7 H] at this
theorem Xa {fr : Fr} {N : Nat} {l : List (Nat × AB)} {t : Nat} {v : AB} (H : Has fr N l) (hr : ∀ fr, nth (DG N l fr) t = v) : nth fr t = v := by
 have := hr fr
 rwa [E7 H] at this
end
section
variable {g : Gd} {h : AJ}
theorem M5 (vs : List AB) : Oi g h (.tuple vs) = (Ih (Mx g) vs h).map fun r => (.tuple r.1, r.2) := rfl
theorem Ma (cs : List AB) : Oi g h (.agg cs) = (Ih (Fl g) cs h).map fun r => (.agg r.1, r.2) := rfl
theorem NB (r : Option Nat) (n : Nat) : Oi g h (AH r n) = Fl g h (AH r n) := rfl
theorem NF (n : Nat) (cs : List AB) : Oi g h (.HE n cs) = some (.HE n cs, h) := rfl
theorem Mz (cs : List AB) : Mx g h (.agg cs) = (Ih (Fl g) cs h).map fun r => (.agg r.1, r.2) := rfl
theorem M0 (r : Option Nat) (n : Nat) : Mx g h (AH r n) = Fl g h (AH r n) := rfl
theorem Mm (n : Nat) (cs : List AB) : Mx g h (.HE n cs) = some (.HE n cs, h) := rfl
theorem Mf (k : IntKind) (n : Int) : Mx g h (.int k n) = some (.int k n, h) := rfl
theorem NI (b : Bool) : Mx g h (.bool b) = some (.bool b, h) := rfl
theorem MZ (s : List UInt8) : Mx g h (.str s) = some (.str s, h) := rfl
theorem My : Mx g h (.slice none 0) = some (.HE 0 [], h) := rfl
theorem Ic (f : AJ → AB → Option (AB × AJ)) : Ih f [] h = some ([], h) := rfl
theorem Io (f : AJ → AB → Option (AB × AJ)) (v : AB) (vs : List AB) : Ih f (v :: vs) h = (match f h v with | some (v', h1) => (Ih f vs h1).map fun r => (v' :: r.1, r.2) | none => none) := rfl
theorem Iq (k : IntKind) (n : Int) : Fl g h (.int k n) = some (.int k n, h) := rfl
theorem IQ (b : Bool) : Fl g h (.bool b) = some (.bool b, h) := rfl
theorem Ig (s : List UInt8) : Fl g h (.str s) = some (.str s, h) := rfl
theorem IK (n : Nat) (cs : List AB) : Fl g h (.HE n cs) = some (.HE n cs, h) := rfl
theorem Ir : Fl g h (.slice none 0) = some (.HE 0 [], h) := rfl
end
def Ts : List (Nat × List Bool) → Nat → List Bool
 | [], _ => []
 | (a, b) :: l, f => bif Nat.beq a f then b else Ts l f
end Go.Av
