/-
  ABS, 24: plain Lean values as rows that nobody writes, and as rows of one's own; the steps on them.
-/
import Derived.Test.YtipknimgfcokeaaGreatDoorAvHH
namespace Go.Av
set_option linter.unusedVariables false
structure Ky {α : Type} (e : α → List AB) (z : Nat) : Prop where
 len : ∀ x, (e x).length = z
 one : ∀ x, (e x).all AB.one = true
 can : ∀ x, (e x).map Gu = e x
abbrev AO {α : Type} (e : α → List AB) (xs : List α) : List AB := xs.flatMap e
abbrev vs {α : Type} (e : α → List AB) (xs : List α) : AB := .Hm xs.length (AO e xs)
def eI (k : IntKind) (x : Int) : List AB := [.int k x]
def eB (x : Bool) : List AB := [.bool x]
def eS (x : List UInt8) : List AB := [.str x]
def eY (x : UInt8) : List AB := [.int .u8 x.toNat]
def eL {α : Type} (e : α → List AB) (xs : List α) : List AB := [vs e xs]
theorem encI (k : IntKind) : Ky (eI k) 1 := ⟨fun _ => rfl, fun _ => rfl, fun _ => rfl⟩
theorem Fx : Ky eB 1 := ⟨fun _ => rfl, fun _ => rfl, fun _ => rfl⟩
theorem J1 : Ky eY 1 := ⟨fun _ => rfl, fun _ => rfl, fun _ => rfl⟩
theorem WE {α : Type} (e : α → List AB) : Ky (eL e) 1 := ⟨fun _ => rfl, fun _ => rfl, fun _ => rfl⟩
section
variable {α : Type} {e : α → List AB} {z : Nat}
theorem Ky.Hb (E : Ky e z) : ∀ xs : List α, (AO e xs).length = xs.length * z
 | [] => by simp
 | x :: xs => by simp only [AO, List.flatMap_cons, List.length_append, E.len, List.length_cons]; rw [show (List.flatMap e xs).length = xs.length * z from E.Hb xs, Nat.add_mul]; omega
theorem Ky.T5 (E : Ky e z) (xs : List α) : (AO e xs).all AB.one = true := by
 rw [List.all_eq_true]
 intro v hv
 obtain ⟨x, _, hx⟩ := List.mem_flatMap.1 hv
 exact List.all_eq_true.1 (E.one x) v hx
theorem Ky.BZ (E : Ky e z) : ∀ xs : List α, (AO e xs).map Gu = AO e xs
 | [] => rfl
 | x :: xs => by simp only [AO, List.flatMap_cons, List.map_append, E.can]; rw [show (List.flatMap e xs).map Gu = _ from E.BZ xs]
theorem Ky.take (E : Ky e z) : ∀ (xs : List α) (n : Nat), (AO e xs).take (n * z) = AO e (xs.take n)
 | [], n => by simp
 | x :: xs, 0 => by simp
 | x :: xs, n + 1 => by
  simp only [AO, List.flatMap_cons, List.take_succ_cons]
  rw [Nat.add_mul, Nat.one_mul, Nat.add_comm, ← E.len x, List.take_length_add_append, E.len x]
  congr 1
  exact E.take xs n
theorem Ky.drop (E : Ky e z) : ∀ (xs : List α) (n : Nat), (AO e xs).drop (n * z) = AO e (xs.drop n)
 | [], n => by simp
 | x :: xs, 0 => by simp
 | x :: xs, n + 1 => by
  simp only [AO, List.flatMap_cons, List.drop_succ_cons]
  rw [Nat.add_mul, Nat.one_mul, Nat.add_comm, ← E.len x, List.drop_length_add_append, E.len x]
  exact E.drop xs n
theorem Ky.at_ (E : Ky e z) {xs : List α} {i : Nat} {x : α} (h : xs[i]? = some x) : ((AO e xs).drop (i * z)).take z = e x := by
 obtain ⟨hi, hx⟩ := List.getElem?_eq_some_iff.1 h
 rw [E.drop, List.drop_eq_getElem_cons hi, hx]
 simp only [AO, List.flatMap_cons]
 rw [← E.len x, List.take_left]
end
def Ff {α : Type} (xs : List α) (i : Int) : Option α := if 0 ≤ i then xs[i.toNat]? else none
def N4 {α : Type} (xs : List α) (lo hi : Option Int) : Option (List α) := (RV xs.length lo hi).map fun p => (xs.drop p.1).take (p.2 - p.1)
section
variable (P : Program) (fr : Fr)
def VI : Op → Option (Nat × List AB × Nat × Int)
 | .indexAddr t x i =>
  match P.underlying t, ev fr x, ev fr i with
  | some (.slice e), .Hm n cs, .int _ i => (Cx P e).map fun z => (n, cs, z, i)
  | _, _, _ => none
 | _ => none
def W7 : Op → Option AB
 | .load t a =>
  match ev fr a with
  | .Aq cs => Gl P (some (.cells none 1 cs)) t 0
  | _ => none
 | _ => none
end
section
variable {C : IJ} {S : Self} {g : Gd} {h h1 : AH} {fr : Fr} {op : Op} {α : Type} {e : α → List AB} {z : Nat}
theorem Hl {xs : List α} {i : Int} {x : α} (E : Ky e z) (hz : z ≠ 0) (hs : VI C.P fr op = some (xs.length, AO e xs, z, i)) (hl : Ff xs i = some x) : Bq C S g h fr op = some (.Aq (e x), h) := by
 unfold VI at hs
 split at hs
 ·rename_i t y j
  split at hs
  ·rename_i el n cs k i' hu hv hi
   simp only [Option.map_eq_some_iff, Prod.mk.injEq] at hs
   obtain ⟨z', hz', rfl, rfl, rfl, rfl⟩ := hs
   unfold Ff at hl
   split at hl
   ·rename_i h0
    have hlt := (List.getElem?_eq_some_iff.1 hl).1
    rw [Ho (by simp [BS])]
    simp only [Hy, BS, IX, hv, hi, GM, hu]
    rw [if_pos ⟨h0, by omega⟩, hz', Option.bind_some, if_pos ⟨E.Hb xs, hz⟩, E.at_ hl]
    rfl
   ·cases hl
  ·cases hs
 ·cases hs
theorem FK {v : AB} (hs : W7 C.P fr op = some v) : Bq C S g h fr op = some (v, h) := by
 unfold W7 at hs
 split at hs
 ·split at hs
  ·rename_i cs hv
   rw [Ho (by simp [BS])]
   simp only [Hy, BS, Du, hv, E4, KF, hs, Option.map_some]
  ·cases hs
 ·cases hs
theorem NN : ∀ l : List UInt8, bytesOf (AO eY l) = some l
 | [] => rfl
 | b :: l => by
  simp only [AO, List.flatMap_cons, eY, List.singleton_append, bytesOf]
  rw [show bytesOf (List.flatMap eY l) = some l from NN l]
  simp
end
section
variable {g : Gd} {h : AH} {L F : List Ck} {α : Type} {e : α → List AB} {z : Nat}
theorem HH.to {h' : AH} (a : HH g h L F) (e : h' = h) : HH g h' L F := e ▸ a
theorem HH.WD (E : Ky e z) (hz : z ≠ 0) (a : HH g h L F) (k : Nat) {r : Option Nat} {t : TypeId} {xs : List α} (hk : L[k]? = some (.AO r t (AO e xs))) : DK h z xs.length (AG r xs.length) = some (AO e xs) := B6 a k hk (E.Hb xs) hz
theorem VZ (E : Ky e z) (h : AH) (xs : List α) : DK h z xs.length (vs e xs) = some (AO e xs) := by
 unfold DK vs
 simp only
 rw [if_pos ⟨Nat.le_refl _, E.Hb xs⟩, List.take_of_length_le (by rw [E.Hb xs]; exact Nat.le_refl _)]
theorem Rb (h : AH) (s : List UInt8) : DK h 1 s.length (.str s) = some (AO eY s) := by
 unfold DK
 simp only [if_true, List.take_length]
 congr 1
 induction s with
 | nil => rfl
 | cons b s ih => simp [AO, eY]; simpa [AO, eY] using ih
def KI (bytes n : Nat) : Bool := decide (n ≤ 1099511627776 ∧ n * bytes ≤ 1099511627776)
theorem HH.Hd (E : Ky e z) (hz : z ≠ 0) (a : HH g h L F) (k : Nat) {r : Option Nat} {t : TypeId} {xs ys : List α} {new : List AB} {bytes m : Nat} {x : AB} (hk : L[k]? = some (.AO r t (AO e xs))) (hx : DK h z m x = some new) (hc : new.map Gu = AO e ys) (hm : m = ys.length) (hb : KI bytes (xs.length + m) = true) :
  ∃ r' h', Av.app t z bytes g h (Cf r xs.length) m x = some (Cf r' (xs ++ ys).length, h') ∧ HH g h' (L.set k (.AO r' t (AO e (xs ++ ys)))) F := by
 subst hm
 obtain ⟨r', h', h1, h2⟩ := a.app k hk (E.Hb xs) hz hx hc (E.Hb ys) (of_decide_eq_true hb) (E.T5 xs) (E.T5 ys)
 refine ⟨r', h', by rw [h1, List.length_append], ?_⟩
 have : AO e (xs ++ ys) = AO e xs ++ AO e ys := by simp [AO]
 rw [this]; exact h2
theorem HH.ND (E : Ky e z) (hz : z ≠ 0) (a : HH g h L F) (k : Nat) {r : Option Nat} {t : TypeId} {xs : List α} (hk : L[k]? = some (.AO r t (AO e xs))) {i : Int} {x : α} (hi : Ff xs i = some x) :
  ∃ id, r = some id ∧ h.get id = some (.cells (some t) 2 (AO e xs)) ∧ WQ (Cf r xs.length) z i = some (id, i.toNat * z) ∧ xs[i.toNat]? = some x := by
 unfold Ff at hi
 split at hi
 ·rename_i h0
  have hlt := (List.getElem?_eq_some_iff.1 hi).1
  cases r with
  | none =>
   have hn : AO e xs = [] := a.mem hk
   exfalso
   have h1 := E.Hb xs
   rw [hn] at h1
   have h2 : xs.length * z = 0 := by simpa using h1.symm
   rcases Nat.mul_eq_zero.1 h2 with h | h
   ·omega
   ·exact hz h
  | some id =>
   refine ⟨id, rfl, a.mem hk, ?_, hi⟩
   simp only [Cf, Option.map_some, WQ]
   rw [UW, if_pos ⟨h0, by omega⟩]
   simp
 ·cases hi
theorem HH.row (a : HH g h L F) (k : Nat) {r : Option Nat} {t : TypeId} {cs : List AB} (hk : L[k]? = some (.AO r t cs)) {id : Nat} (er : r = some id) : h.get id = some (.cells (some t) 2 cs) := by
 subst er; exact a.mem hk
theorem PF (E : Ky e z) {id : Nat} {gr : Option TypeId} {xs : List α} (hg : h.get id = some (.cells gr 2 (AO e xs))) {i : Nat} {x : α} (hx : xs[i]? = some x) (o n : Nat) (hon : o + n ≤ z) : GX h (id, i * z + o) n = some (((e x).drop o).take n) := by
 have hi := (List.getElem?_eq_some_iff.1 hx).1
 have hle : (i + 1) * z ≤ xs.length * z := Nat.mul_le_mul_right _ (by omega)
 rw [Nat.add_mul, Nat.one_mul] at hle
 unfold Av.GX C5
 simp only [hg]
 rw [if_pos ⟨by simp, by rw [E.Hb xs]; omega⟩, ← E.at_ hx, ← List.drop_drop]
 congr 1
 generalize (AO e xs).drop (i * z) = l
 rw [List.drop_take, List.take_take, Nat.min_eq_left (by omega)]
theorem E7 (E : Ky e z) {id : Nat} {gr : Option TypeId} {xs : List α} (hg : h.get id = some (.cells gr 2 (AO e xs))) {i : Nat} {x : α} (hx : xs[i]? = some x) {o : Nat} {v : AB} (hv : (e x)[o]? = some v) : O7 h (id, i * z + o) = some v := by
 have ho := (List.getElem?_eq_some_iff.1 hv).1
 have h1 := PF E hg hx o 1 (by rw [E.len] at ho; omega)
 unfold Av.GX at h1
 unfold Av.O7
 rw [h1, List.drop_eq_getElem_cons ho, (List.getElem?_eq_some_iff.1 hv).2]
 rfl
theorem Ri {A m B new : List AB} {o : Nat} (h : o + new.length ≤ m.length) : E0 (A ++ (m ++ B)) (A.length + o) new = A ++ (E0 m o new ++ B) := by
 unfold E0
 have e1 : (A ++ (m ++ B)).take (A.length + o) = A ++ m.take o := by
  rw [List.take_length_add_append, List.take_append_of_le_length (by omega)]
 have e2 : (A ++ (m ++ B)).drop (A.length + o + new.length) = m.drop (o + new.length) ++ B := by
  rw [Nat.add_assoc, List.drop_length_add_append, List.drop_append_of_le_length (by omega)]
 rw [e1, e2]
 simp [List.append_assoc]
theorem HH.VK (E : Ky e z) (a : HH g h L F) (k : Nat) {r : Option Nat} {t : TypeId} {xs : List α} (hk : L[k]? = some (.AO r t (AO e xs))) {id : Nat} (er : r = some id) {i : Nat} {x y : α} (hx : xs[i]? = some x) {o : Nat} {new : List AB} (hs : E0 (e x) o new = e y) (h1 : new.all AB.one = true) (hl : o + new.length ≤ z := by decide) :
  ∃ h', Av.st g h (id, i * z + o) new = some h' ∧ HH g h' (L.set k (.AO r t (AO e (xs.set i y)))) F := by
 have hg := a.row k hk er
 have hi := (List.getElem?_eq_some_iff.1 hx).1
 have hid := h.DG hg
 have hle : (i + 1) * z ≤ xs.length * z := Nat.mul_le_mul_right _ (by omega)
 rw [Nat.add_mul, Nat.one_mul] at hle
 have hm : g.may id = true := a.PS hk (by rw [er]; simp [Ck.ids])
 refine ⟨h.set id (.cells (some t) 2 (AO e (xs.set i y))), ?_, ?_⟩
 ·unfold Av.st Dn
  simp only [hg]
  rw [if_pos ⟨hm, by rw [E.Hb xs]; omega, h1⟩]
  congr 2
  have hsplit : AO e xs = AO e (xs.take i) ++ (e x ++ AO e (xs.drop (i + 1))) := by
   conv => lhs; rw [← List.take_append_drop i xs, List.drop_eq_getElem_cons hi, (List.getElem?_eq_some_iff.1 hx).2]
   simp [AO]
  have hlen : (AO e (xs.take i)).length = i * z := by rw [E.Hb, List.length_take, Nat.min_eq_left (by omega)]
  have W2 : AO e (xs.set i y) = AO e (xs.take i) ++ (e y ++ AO e (xs.drop (i + 1))) := by
   rw [List.set_eq_take_append_cons_drop, if_pos hi]
   simp [AO]
  rw [hsplit, W2, ← hlen, Ri (by rw [E.len]; exact hl), hs]
 ·subst er
  refine a.QV hk (by simp) (fun j _ hj => h.Ed _ hid (by simpa [Ck.ids] using hj)) (h.Fq _ hid) (fun j hj => .inl hj) (fun j hj => a.PS hk hj)
theorem I3 {h1 : AH} {a : Nat × Nat} {cs : List AB} {n : Nat} (hs : st g h a cs = some h1) (hl : cs.length = n) : XG n g h a cs = some h1 := by unfold XG; rw [if_pos hl]; exact hs
theorem WH (s : List UInt8) : (s.map fun b => AB.int .u8 b.toNat) = AO eY s := by
 induction s with
 | nil => rfl
 | cons b s ih => simp [AO, eY] at *; exact ih
def RB (c : Int) : Option UInt8 := if 0 ≤ c ∧ c ≤ 255 then some (UInt8.ofNat c.toNat) else none
theorem LY {c : Int} {y : UInt8} (h : RB c = some y) : c = (y.toNat : Int) := by
 unfold RB at h
 split at h
 ·rename_i hc
  injection h with h
  subst h
  have : (UInt8.ofNat c.toNat).toNat = c.toNat % 256 := UInt8.toNat_ofNat'
  rw [this]; omega
 ·cases h
theorem Ou {C : IJ} {S : Self} {fr : Fr} {op : Op} {xs : List UInt8} (a : HH g h L F) (k : Nat) {r : Option Nat} {t : TypeId} (hk : L[k]? = some (.AO r t (AO eY xs))) (hs : UF C.P fr op = some ((Cf r xs.length).r, xs.length)) : Bq C S g h fr op = some (.str xs, h) := by
 refine Wo (s := Cf r xs.length) hs ?_
 have hok := a.mem hk
 unfold XV Cf
 cases r with
 | none =>
  have : AO eY xs = [] := hok
  have h1 := J1.Hb xs
  rw [this] at h1
  have : xs = [] := List.eq_nil_of_length_eq_zero (by simpa using h1.symm)
  subst this
  rfl
 | some id =>
  have hg : h.get id = some (.cells (some t) 2 (AO eY xs)) := hok
  simp only [Option.map_some]
  by_cases h0 : xs.length = 0
  ·have : xs = [] := List.eq_nil_of_length_eq_zero h0
   subst this
   rw [if_pos h0, hg]
   rfl
  ·rw [if_neg h0]
   unfold C5
   simp only [hg]
   have h1 := J1.Hb xs
   rw [if_pos ⟨by simp, by rw [h1]; omega⟩, List.drop_zero, List.take_of_length_le (by rw [h1]; omega)]
   exact NN xs
def WO (bytes : Nat) (n : Int) : Bool := decide (0 ≤ n ∧ n ≤ 1099511627776 ∧ bytes * n ≤ 1099511627776)
theorem Mx {x : α} : ∀ n, FL (e x) n = AO e (List.replicate n x)
 | 0 => rfl
 | n + 1 => by rw [List.replicate_succ, AO, List.flatMap_cons, FL, Mx n]
theorem TX {C : IJ} {S : Self} {fr : Fr} {op : Op} {h1 : AH} {t : TypeId} {bytes : Nat} {n : Int} {x : α} (E : Ky e z) (hs : UX C.P fr op = some (t, bytes, e x, n, n)) (hb : WO bytes n = true) (hh : some (h.push (.cells (some t) 2 (AO e (List.replicate n.toNat x)))) = some h1) :
  Bq C S g h fr op = some (AG (some h.size) (List.replicate n.toNat x).length, h1) := by
 have hb := of_decide_eq_true hb
 have := Wg (S := S) (g := g) hs (cs := AO e (List.replicate n.toNat x)) (by unfold XC; rw [if_pos ⟨hb.1, Int.le_refl _, hb.2.1, hb.2.2⟩, Mx]) hh
 rw [this, List.length_replicate]
 rfl
end
section
variable {g : Gd} {h h' : AH} {L F : List Ck}
theorem HH.Oi (a : HH g h L F) (n : Nat) : HH g h (L.take n) F := by
 have hs : (Dt (L.take n ++ F)).Sublist (Dt (L ++ F)) := by
  rw [DH, DH]
  refine List.Sublist.append ?_ (List.Sublist.refl _)
  conv => rhs; rw [← List.take_append_drop n L, DH]
  exact List.sublist_append_left _ _
 exact ⟨fun c hc => a.ok c (by rcases List.mem_append.1 hc with h | h; exact List.mem_append.2 (.inl (List.mem_of_mem_take h)); exact List.mem_append.2 (.inr h)), a.nd.sublist hs,
  fun i hi => a.may i (by rw [← List.take_append_drop n L, DH]; exact List.mem_append.2 (.inl hi)), a.BR, a.floor⟩
inductive St (R : List Ck) : List Nat → Prop where
 | nil : St R []
 | cons {p : Nat} {ps : List Nat} {c : Ck} (k : Nat) : R[k]? = some c → p ∈ c.ids → St R ps → St R (p :: ps)
theorem St.mem {R : List Ck} {ps : List Nat} (h : St R ps) : ∀ p ∈ ps, p ∈ Dt R := by
 induction h with
 | nil => intro p hp; cases hp
 | cons k hk hm _ ih =>
  intro p hp
  rcases List.mem_cons.1 hp with rfl | hp
  ·simp only [Dt, List.mem_flatMap]; exact ⟨_, List.mem_of_getElem? hk, hm⟩
  ·exact ih p hp
theorem HH.Fe (a : HH g h L F) (n : Nat) {pr : List Nat} (hp : St (L.drop n) pr) : HH ⟨g.floor, pr ++ g.BR⟩ h (L.take n) (L.drop n ++ F) := by
 refine (a.cut n).Wq (fun i hi hn => ?_) (fun i hi => ?_)
 ·have h1 := hp.mem i hn
  have h2 := a.nd
  rw [← List.take_append_drop n L, DH, DH, List.append_assoc, List.nodup_append] at h2
  exact h2.2.2 i hi i (List.mem_append.2 (.inl h1)) rfl
 ·refine a.lt (i := i) ?_
  rw [← List.take_append_drop n L, DH, DH]
  exact List.mem_append.2 (.inl (List.mem_append.2 (.inr (hp.mem i hi))))
theorem HH.QK {pr : List Nat} {n : Nat} {L' : List Ck} (a : HH g h L F) (b : HH ⟨g.floor, pr ++ g.BR⟩ h' L' (L.drop n ++ F)) : HH g h' (L' ++ L.drop n) F :=
 a.glue b (fun i hm => by
  simp only [Gd.may, Bool.and_eq_true, Bool.not_eq_true', List.any_append, Bool.or_eq_false_iff] at hm ⊢
  exact ⟨hm.1, hm.2.2⟩) (fun i hi => List.mem_append.2 (.inr hi)) rfl
end
section
variable {C : IJ} {g : Gd} {h : AH} {f : FuncId}
theorem OB {args : List AB} {n : Nat} {rs : List ResultVar} {R : AB → AH → Prop} (hf : Hv C.P f = some (n, rs))
  (hh : AW C f g (LD C.P f) (args ++ List.replicate (n - args.length) (.tuple [])) h (fun e fr h' => (e = .ret ∨ e = .normal) ∧ ∃ v, K0 C.P rs fr h' = some v ∧ R v h')) : ∃ v h', MH C g h f args v h' ∧ R v h' := by
 obtain ⟨m, e, fr', h2, hx, ⟨hq, v, hv, hR⟩⟩ := hh.ex
 exact ⟨v, h2, Ug hf ⟨⟨m, e, fr', h2, hx, ⟨hq, hv, rfl⟩⟩⟩, hR⟩
theorem Vx {args args' : List AB} {n : Nat} {rs : List ResultVar} {R : AB → AH → Prop} (hk : C.kind f = 1) (hc : BZ (C.still f) args = args') (hf : Hv C.P f = some (n, rs))
  (hh : AW C f g (LD C.P f) (args' ++ List.replicate (n - args'.length) (.tuple [])) h (fun e fr h' => (e = .ret ∨ e = .normal) ∧ ∃ v, K0 C.P rs fr h' = some v ∧ R v h')) : ∃ v h', Bg C g h f args v h' ∧ R v h' := by
 obtain ⟨v, h', hb, hR⟩ := OB hf hh
 exact ⟨v, h', W1 hk hc hb, hR⟩
theorem Va {args args' : List AB} {n : Nat} {rs : List ResultVar} {R : AB → AH → Prop} (hk : C.kind f = 7) (hc : BZ (C.still f) args = args') (hf : Hv C.P f = some (n, rs))
  (hh : AW C f g (LD C.P f) (args' ++ List.replicate (n - args'.length) (.tuple [])) h (fun e fr h' => (e = .ret ∨ e = .normal) ∧ ∃ v, K0 C.P rs fr h' = some v ∧ ∃ v' h'', OR g h' v = some (v', h'') ∧ R v' h'')) : ∃ v h', Bg C g h f args v h' ∧ R v h' := by
 obtain ⟨v, h', hb, v', h'', hz, hR⟩ := OB hf hh
 exact ⟨v', h'', W5 hk hc hb hz, hR⟩
theorem WJ {args args' : List AB} {n : Nat} {rs : List ResultVar} {R : AB → AH → Prop} (hk : C.kind f = 9) (hc : BZ (C.still f) args = args') (hf : Hv C.P f = some (n, rs))
  (hh : AW C f g (LD C.P f) (args' ++ List.replicate (n - args'.length) (.tuple [])) h (fun e fr h' => (e = .ret ∨ e = .normal) ∧ ∃ v, K0 C.P rs fr h' = some v ∧ ∃ v' h'', Pl g h' v = some (v', h'') ∧ R v' h'')) : ∃ v h', Bg C g h f args v h' ∧ R v h' := by
 obtain ⟨v, h', hb, v', h'', hz, hR⟩ := OB hf hh
 exact ⟨v', h'', Wn hk hc hb hz, hR⟩
theorem XN {P : Program} {fr : Fr} {N : Nat} {l : List (Nat × AB)} {rs : List ResultVar} {v : AB} (H : Has fr N l) (hr : ∀ fr, K0 P rs (DX N l fr) h = some v) : K0 P rs fr h = some v := by
 have := hr fr
 rwa [Fb H] at this
theorem XM {fr : Fr} {N : Nat} {l : List (Nat × AB)} {t : Nat} {v : AB} (H : Has fr N l) (hr : ∀ fr, nth (DX N l fr) t = v) : nth fr t = v := by
 have := hr fr
 rwa [Fb H] at this
end
section
variable {g : Gd} {h : AH}
theorem SV (vs : List AB) : OR g h (.tuple vs) = (H2 (MQ g) vs h).map fun r => (.tuple r.1, r.2) := rfl
theorem Sv (cs : List AB) : OR g h (.agg cs) = (H2 (G2 g) cs h).map fun r => (.agg r.1, r.2) := rfl
theorem SY (r : Option Nat) (n : Nat) : OR g h (AG r n) = G2 g h (AG r n) := rfl
theorem Sr (n : Nat) (cs : List AB) : OR g h (.Hm n cs) = some (.Hm n cs, h) := rfl
theorem S2 (cs : List AB) : MQ g h (.agg cs) = (H2 (G2 g) cs h).map fun r => (.agg r.1, r.2) := rfl
theorem Sb (r : Option Nat) (n : Nat) : MQ g h (AG r n) = G2 g h (AG r n) := rfl
theorem SP (n : Nat) (cs : List AB) : MQ g h (.Hm n cs) = some (.Hm n cs, h) := rfl
theorem SU (k : IntKind) (n : Int) : MQ g h (.int k n) = some (.int k n, h) := rfl
theorem Ss (b : Bool) : MQ g h (.bool b) = some (.bool b, h) := rfl
theorem S3 (s : List UInt8) : MQ g h (.str s) = some (.str s, h) := rfl
theorem S0 : MQ g h (.slice none 0) = some (.Hm 0 [], h) := rfl
theorem HI (f : AH → AB → Option (AB × AH)) : H2 f [] h = some ([], h) := rfl
theorem HJ (f : AH → AB → Option (AB × AH)) (v : AB) (vs : List AB) : H2 f (v :: vs) h = (match f h v with | some (v', h1) => (H2 f vs h1).map fun r => (v' :: r.1, r.2) | none => none) := rfl
theorem HN (k : IntKind) (n : Int) : G2 g h (.int k n) = some (.int k n, h) := rfl
theorem HG (b : Bool) : G2 g h (.bool b) = some (.bool b, h) := rfl
theorem HM (s : List UInt8) : G2 g h (.str s) = some (.str s, h) := rfl
theorem HQ (n : Nat) (cs : List AB) : G2 g h (.Hm n cs) = some (.Hm n cs, h) := rfl
theorem HX : G2 g h (.slice none 0) = some (.Hm 0 [], h) := rfl
end
def VV : List (Nat × List Bool) → Nat → List Bool
 | [], _ => []
 | (a, b) :: l, f => bif Nat.beq a f then b else VV l f
end Go.Av
