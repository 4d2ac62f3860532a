/-
 A part.
-/
import Derived.Test.YtlljeoogceblmaaGreatDoorAvHH
namespace Go.Av
set_option linter.unusedVariables false
structure LB {α : Type} (e : α → List AA) (z : Nat) : Prop where
 len : ∀ x, (e x).length = z
 one : ∀ x, (e x).all AA.one = true
 can : ∀ x, (e x).map EV = e x
abbrev Ak {α : Type} (e : α → List AA) (xs : List α) : List AA := xs.flatMap e
abbrev vs {α : Type} (e : α → List AA) (xs : List α) : AA := .Gg xs.length (Ak e xs)
def eI (k : IntKind) (x : Int) : List AA := [.int k x]
def eS (x : List UInt8) : List AA := [.str x]
def eY (x : UInt8) : List AA := [.int .u8 x.toNat]
def eL {α : Type} (e : α → List AA) (xs : List α) : List AA := [vs e xs]
theorem encI (k : IntKind) : LB (eI k) 1 := ⟨fun _ => rfl, fun _ => rfl, fun _ => rfl⟩
theorem encS : LB eS 1 := ⟨fun _ => rfl, fun _ => rfl, fun _ => rfl⟩
theorem O1 : LB eY 1 := ⟨fun _ => rfl, fun _ => rfl, fun _ => rfl⟩
section
variable {α : Type} {e : α → List AA} {z : Nat}
theorem LB.K1 (E : LB e z) : ∀ xs : List α, (Ak e xs).length = xs.length * z
 | [] => by simp
 | x :: xs => by simp only [Ak, List.flatMap_cons, List.length_append, E.len, List.length_cons]; rw [show (List.flatMap e xs).length = xs.length * z from E.K1 xs, Nat.add_mul]; omega
theorem LB.ZP (E : LB e z) (xs : List α) : (Ak e xs).all AA.one = true := by
 rw [List.all_eq_true]
 intro v hv
 obtain ⟨x, _, hx⟩ := List.mem_flatMap.1 hv
 exact List.all_eq_true.1 (E.one x) v hx
theorem LB.BG (E : LB e z) : ∀ xs : List α, (Ak e xs).map EV = Ak e xs
 | [] => rfl
 | x :: xs => by simp only [Ak, List.flatMap_cons, List.map_append, E.can]; rw [show (List.flatMap e xs).map EV = _ from E.BG xs]
theorem LB.take (E : LB e z) : ∀ (xs : List α) (n : Nat), (Ak e xs).take (n * z) = Ak e (xs.take n)
 | [], n => by simp
 | x :: xs, 0 => by simp
 | x :: xs, n + 1 => by
  simp only [Ak, List.flatMap_cons, List.take_succ_cons]
  rw [Nat.add_mul, Nat.one_mul, Nat.add_comm, ← E.len x, List.take_length_add_append, E.len x]
  congr 1
  exact E.take xs n
theorem LB.drop (E : LB e z) : ∀ (xs : List α) (n : Nat), (Ak e xs).drop (n * z) = Ak e (xs.drop n)
 | [], n => by simp
 | x :: xs, 0 => by simp
 | x :: xs, n + 1 => by
  simp only [Ak, List.flatMap_cons, List.drop_succ_cons]
  rw [Nat.add_mul, Nat.one_mul, Nat.add_comm, ← E.len x, List.drop_length_add_append, E.len x]
  exact E.drop xs n
theorem LB.at_ (E : LB e z) {xs : List α} {i : Nat} {x : α} (h : xs[i]? = some x) : ((Ak e xs).drop (i * z)).take z = e x := by
 obtain ⟨hi, hx⟩ := List.getElem?_eq_some_iff.1 h
 rw [E.drop, List.drop_eq_getElem_cons hi, hx]
 simp only [Ak, List.flatMap_cons]
 rw [← E.len x, List.take_left]
end
def IG {α : Type} (xs : List α) (i : Int) : Option α := if 0 ≤ i then xs[i.toNat]? else none
section
variable (P : Program) (fr : Fr)
def Xv : Op → Option (Nat × List AA × Nat × Int)
 | .indexAddr t x i =>
  match P.underlying t, ev fr x, ev fr i with
  | some (.slice e), .Gg n cs, .int _ i => (Bq P e).map fun z => (n, cs, z, i)
  | _, _, _ => none
 | _ => none
def Z6 : Op → Option AA
 | .load t a =>
  match ev fr a with
  | .AR cs => Fw P (some (.cells none 1 cs)) t 0
  | _ => none
 | _ => none
end
section
variable {C : FY} {S : Self} {g : Gd} {h h1 : AD} {fr : Fr} {op : Op} {α : Type} {e : α → List AA} {z : Nat}
theorem OC {xs : List α} {i : Int} {x : α} (E : LB e z) (hz : z ≠ 0) (hs : Xv C.P fr op = some (xs.length, Ak e xs, z, i)) (hl : IG xs i = some x) : A0 C S g h fr op = some (.AR (e x), h) := by
 unfold Xv at hs
 split at hs
 ·rename_i t y j
  split at hs
  ·rename_i el n cs k i' hu hv hi
   simp only [Option.map_eq_some_iff, Prod.mk.injEq] at hs
   obtain ⟨z', hz', rfl, rfl, rfl, rfl⟩ := hs
   unfold IG at hl
   split at hl
   ·rename_i h0
    have hlt := (List.getElem?_eq_some_iff.1 hl).1
    rw [Gu (by simp [As])]
    simp only [G3, As, Ha, hv, hi, G8, hu]
    rw [if_pos ⟨h0, by omega⟩, hz', Option.bind_some, if_pos ⟨E.K1 xs, hz⟩, E.at_ hl]
    rfl
   ·cases hl
  ·cases hs
 ·cases hs
theorem Kz {v : AA} (hs : Z6 C.P fr op = some v) : A0 C S g h fr op = some (v, h) := by
 unfold Z6 at hs
 split at hs
 ·split at hs
  ·rename_i cs hv
   rw [Gu (by simp [As])]
   simp only [G3, As, Ci, hv, Dn, JQ, hs, Option.map_some]
  ·cases hs
 ·cases hs
theorem NU : ∀ l : List UInt8, bytesOf (Ak eY l) = some l
 | [] => rfl
 | b :: l => by
  simp only [Ak, List.flatMap_cons, eY, List.singleton_append, bytesOf]
  rw [show bytesOf (List.flatMap eY l) = some l from NU l]
  simp
end
section
variable {g : Gd} {h : AD} {L F : List Ck} {α : Type} {e : α → List AA} {z : Nat}
theorem HH.to {h' : AD} (a : HH g h L F) (e : h' = h) : HH g h' L F := e ▸ a
theorem ZD (E : LB e z) (h : AD) (xs : List α) : DC h z xs.length (vs e xs) = some (Ak e xs) := by
 unfold DC vs
 simp only
 rw [if_pos ⟨Nat.le_refl _, E.K1 xs⟩, List.take_of_length_le (by rw [E.K1 xs]; exact Nat.le_refl _)]
def R4 (bytes n : Nat) : Bool := decide (n ≤ 1099511627776 ∧ n * bytes ≤ 1099511627776)
theorem HH.N7 (E : LB e z) (hz : z ≠ 0) (a : HH g h L F) (k : Nat) {r : Option Nat} {t : TypeId} {xs ys : List α} {new : List AA} {bytes m : Nat} {x : AA} (hk : L[k]? = some (.Ak r t (Ak e xs))) (hx : DC h z m x = some new) (hc : new.map EV = Ak e ys) (hm : m = ys.length) (hb : R4 bytes (xs.length + m) = true) :
  ∃ r' h', Av.app t z bytes g h (EF r xs.length) m x = some (EF r' (xs ++ ys).length, h') ∧ HH g h' (L.set k (.Ak r' t (Ak e (xs ++ ys)))) F := by
 subst hm
 obtain ⟨r', h', h1, h2⟩ := a.app k hk (E.K1 xs) hz hx hc (E.K1 ys) (of_decide_eq_true hb) (E.ZP xs) (E.ZP ys)
 refine ⟨r', h', by rw [h1, List.length_append], ?_⟩
 have : Ak e (xs ++ ys) = Ak e xs ++ Ak e ys := by simp [Ak]
 rw [this]; exact h2
theorem HH.XQ (E : LB e z) (hz : z ≠ 0) (a : HH g h L F) (k : Nat) {r : Option Nat} {t : TypeId} {xs : List α} (hk : L[k]? = some (.Ak r t (Ak e xs))) {i : Int} {x : α} (hi : IG xs i = some x) :
  ∃ id, r = some id ∧ h.get id = some (.cells (some t) 2 (Ak e xs)) ∧ aO (EF r xs.length) z i = some (id, i.toNat * z) ∧ xs[i.toNat]? = some x := by
 unfold IG at hi
 split at hi
 ·rename_i h0
  have hlt := (List.getElem?_eq_some_iff.1 hi).1
  cases r with
  | none =>
   have hn : Ak e xs = [] := a.mem hk
   exfalso
   have h1 := E.K1 xs
   rw [hn] at h1
   have h2 : xs.length * z = 0 := by simpa using h1.symm
   rcases Nat.mul_eq_zero.1 h2 with h | h
   ·omega
   ·exact hz h
  | some id =>
   refine ⟨id, rfl, a.mem hk, ?_, hi⟩
   simp only [EF, Option.map_some, aO]
   rw [al, if_pos ⟨h0, by omega⟩]
   simp
 ·cases hi
theorem HH.row (a : HH g h L F) (k : Nat) {r : Option Nat} {t : TypeId} {cs : List AA} (hk : L[k]? = some (.Ak r t cs)) {id : Nat} (er : r = some id) : h.get id = some (.cells (some t) 2 cs) := by
 subst er; exact a.mem hk
theorem QQ (E : LB e z) {id : Nat} {gr : Option TypeId} {xs : List α} (hg : h.get id = some (.cells gr 2 (Ak e xs))) {i : Nat} {x : α} (hx : xs[i]? = some x) (o n : Nat) (hon : o + n ≤ z) : Eh h (id, i * z + o) n = some (((e x).drop o).take n) := by
 have hi := (List.getElem?_eq_some_iff.1 hx).1
 have hle : (i + 1) * z ≤ xs.length * z := Nat.mul_le_mul_right _ (by omega)
 rw [Nat.add_mul, Nat.one_mul] at hle
 unfold Av.Eh Bx
 simp only [hg]
 rw [if_pos ⟨by simp, by rw [E.K1 xs]; omega⟩, ← E.at_ hx, ← List.drop_drop]
 congr 1
 generalize (Ak e xs).drop (i * z) = l
 rw [List.drop_take, List.take_take, Nat.min_eq_left (by omega)]
theorem NL (E : LB e z) {id : Nat} {gr : Option TypeId} {xs : List α} (hg : h.get id = some (.cells gr 2 (Ak e xs))) {i : Nat} {x : α} (hx : xs[i]? = some x) {o : Nat} {v : AA} (hv : (e x)[o]? = some v) : ld1 h (id, i * z + o) = some v := by
 have ho := (List.getElem?_eq_some_iff.1 hv).1
 have h1 := QQ E hg hx o 1 (by rw [E.len] at ho; omega)
 unfold Av.Eh at h1
 unfold Av.ld1
 rw [h1, List.drop_eq_getElem_cons ho, (List.getElem?_eq_some_iff.1 hv).2]
 rfl
theorem S7 {A m B new : List AA} {o : Nat} (h : o + new.length ≤ m.length) : DT (A ++ (m ++ B)) (A.length + o) new = A ++ (DT m o new ++ B) := by
 unfold DT
 have e1 : (A ++ (m ++ B)).take (A.length + o) = A ++ m.take o := by
  rw [List.take_length_add_append, List.take_append_of_le_length (by omega)]
 have e2 : (A ++ (m ++ B)).drop (A.length + o + new.length) = m.drop (o + new.length) ++ B := by
  rw [Nat.add_assoc, List.drop_length_add_append, List.drop_append_of_le_length (by omega)]
 rw [e1, e2]
 simp [List.append_assoc]
theorem HH.aZ (E : LB e z) (a : HH g h L F) (k : Nat) {r : Option Nat} {t : TypeId} {xs : List α} (hk : L[k]? = some (.Ak r t (Ak e xs))) {id : Nat} (er : r = some id) {i : Nat} {x y : α} (hx : xs[i]? = some x) {o : Nat} {new : List AA} (hs : DT (e x) o (new.map EV) = e y) (h1 : new.all AA.one = true) (hl : o + new.length ≤ z := by decide) :
  ∃ h', Av.st g h (id, i * z + o) new = some h' ∧ HH g h' (L.set k (.Ak r t (Ak e (xs.set i y)))) F := by
 have hg := a.row k hk er
 have hi := (List.getElem?_eq_some_iff.1 hx).1
 have hid := h.Ay hg
 have hle : (i + 1) * z ≤ xs.length * z := Nat.mul_le_mul_right _ (by omega)
 rw [Nat.add_mul, Nat.one_mul] at hle
 have hm : g.may id = true := a.K5 hk (by rw [er]; simp [Ck.ids])
 refine ⟨h.set id (.cells (some t) 2 (Ak e (xs.set i y))), ?_, ?_⟩
 ·unfold Av.st CA
  simp only [hg]
  rw [if_pos ⟨hm, by rw [E.K1 xs]; omega, h1⟩]
  congr 2
  have hsplit : Ak e xs = Ak e (xs.take i) ++ (e x ++ Ak e (xs.drop (i + 1))) := by
   conv => lhs; rw [← List.take_append_drop i xs, List.drop_eq_getElem_cons hi, (List.getElem?_eq_some_iff.1 hx).2]
   simp [Ak]
  have hlen : (Ak e (xs.take i)).length = i * z := by rw [E.K1, List.length_take, Nat.min_eq_left (by omega)]
  have hset : Ak e (xs.set i y) = Ak e (xs.take i) ++ (e y ++ Ak e (xs.drop (i + 1))) := by
   rw [List.set_eq_take_append_cons_drop, if_pos hi]
   simp [Ak]
  show BY.cells (some t) 2 (DT _ _ (new.map EV)) = _
  rw [hsplit, hset, ← hlen, S7 (by rw [E.len, List.length_map]; exact hl), hs]
 ·subst er
  refine a.Ov hk (by simp) (fun j _ hj => h.A8 _ hid (by simpa [Ck.ids] using hj)) (h.get_set_same _ hid) (fun j hj => .inl hj) (fun j hj => a.K5 hk hj)
theorem NY {h1 : AD} {a : Nat × Nat} {cs : List AA} {n : Nat} (hs : st g h a cs = some h1) (hl : cs.length = n) : aL n g h a cs = some h1 := by unfold aL; rw [if_pos hl]; exact hs
def XJ (c : Int) : Option UInt8 := if 0 ≤ c ∧ c ≤ 255 then some (UInt8.ofNat c.toNat) else none
theorem WO {c : Int} {y : UInt8} (h : XJ c = some y) : c = (y.toNat : Int) := by
 unfold XJ at h
 split at h
 ·rename_i hc
  injection h with h
  subst h
  have : (UInt8.ofNat c.toNat).toNat = c.toNat % 256 := UInt8.toNat_ofNat'
  rw [this]; omega
 ·cases h
theorem Xt {C : FY} {S : Self} {fr : Fr} {op : Op} {xs : List UInt8} (a : HH g h L F) (k : Nat) {r : Option Nat} {t : TypeId} (hk : L[k]? = some (.Ak r t (Ak eY xs))) (hs : Wj C.P fr op = some ((EF r xs.length).r, xs.length)) : A0 C S g h fr op = some (.str xs, h) := by
 refine ZV (s := EF r xs.length) hs ?_
 have hok := a.mem hk
 unfold aj EF
 cases r with
 | none =>
  have : Ak eY xs = [] := hok
  have h1 := O1.K1 xs
  rw [this] at h1
  have : xs = [] := List.eq_nil_of_length_eq_zero (by simpa using h1.symm)
  subst this
  rfl
 | some id =>
  have hg : h.get id = some (.cells (some t) 2 (Ak eY xs)) := hok
  simp only [Option.map_some]
  by_cases h0 : xs.length = 0
  ·have : xs = [] := List.eq_nil_of_length_eq_zero h0
   subst this
   rw [if_pos h0, hg]
   rfl
  ·rw [if_neg h0]
   unfold Bx
   simp only [hg]
   have h1 := O1.K1 xs
   rw [if_pos ⟨by simp, by rw [h1]; omega⟩, List.drop_zero, List.take_of_length_le (by rw [h1]; omega)]
   exact NU xs
def Z5 (bytes : Nat) (n : Int) : Bool := decide (0 ≤ n ∧ n ≤ 1099511627776 ∧ bytes * n ≤ 1099511627776)
theorem Mh {x : α} : ∀ n, D9 (e x) n = Ak e (List.replicate n x)
 | 0 => rfl
 | n + 1 => by rw [List.replicate_succ, Ak, List.flatMap_cons, D9, Mh n]
theorem Xs {C : FY} {S : Self} {fr : Fr} {op : Op} {h1 : AD} {t : TypeId} {bytes : Nat} {n : Int} {x : α} (E : LB e z) (hs : Xe C.P fr op = some (t, bytes, e x, n, n)) (hb : Z5 bytes n = true) (hh : some (h.push (.cells (some t) 2 (Ak e (List.replicate n.toNat x)))) = some h1) :
  A0 C S g h fr op = some (Af (some h.size) (List.replicate n.toNat x).length, h1) := by
 have hb := of_decide_eq_true hb
 have := aA (S := S) (g := g) hs (cs := Ak e (List.replicate n.toNat x)) (by unfold aP; rw [if_pos ⟨hb.1, Int.le_refl _, hb.2.1, hb.2.2⟩, Mh]) hh
 rw [this, List.length_replicate]
 rfl
end
section
variable {g : Gd} {h h' : AD} {L F : List Ck}
theorem HH.Xy (a : HH g h L F) (n : Nat) : HH g h (L.take n) F := by
 have hs : (CT (L.take n ++ F)).Sublist (CT (L ++ F)) := by
  rw [CE, CE]
  refine List.Sublist.append ?_ (List.Sublist.refl _)
  conv => rhs; rw [← List.take_append_drop n L, CE]
  exact List.sublist_append_left _ _
 exact ⟨fun c hc => a.ok c (by rcases List.mem_append.1 hc with h | h; exact List.mem_append.2 (.inl (List.mem_of_mem_take h)); exact List.mem_append.2 (.inr h)), a.nd.sublist hs,
  fun i hi => a.may i (by rw [← List.take_append_drop n L, CE]; exact List.mem_append.2 (.inl hi)), a.Cl, a.floor⟩
inductive Sn (R : List Ck) : List Nat → Prop where
 | nil : Sn R []
 | cons {p : Nat} {ps : List Nat} {c : Ck} (k : Nat) : R[k]? = some c → p ∈ c.ids → Sn R ps → Sn R (p :: ps)
theorem Sn.mem {R : List Ck} {ps : List Nat} (h : Sn R ps) : ∀ p ∈ ps, p ∈ CT R := by
 induction h with
 | nil => intro p hp; cases hp
 | cons k hk hm _ ih =>
  intro p hp
  rcases List.mem_cons.1 hp with rfl | hp
  ·simp only [CT, List.mem_flatMap]; exact ⟨_, List.mem_of_getElem? hk, hm⟩
  ·exact ih p hp
theorem HH.Lk (a : HH g h L F) (n : Nat) {pr : List Nat} (hp : Sn (L.drop n) pr) : HH ⟨g.floor, pr ++ g.Cl⟩ h (L.take n) (L.drop n ++ F) := by
 refine (a.cut n).aI (fun i hi hn => ?_) (fun i hi => ?_)
 ·have h1 := hp.mem i hn
  have h2 := a.nd
  rw [← List.take_append_drop n L, CE, CE, List.append_assoc, List.nodup_append] at h2
  exact h2.2.2 i hi i (List.mem_append.2 (.inl h1)) rfl
 ·refine a.lt (i := i) ?_
  rw [← List.take_append_drop n L, CE, CE]
  exact List.mem_append.2 (.inl (List.mem_append.2 (.inr (hp.mem i hi))))
theorem UY {g g' : Gd} {h : AD} {v : AA} {x y : AA × AD} (h1 : FZ g h v = some x) (h2 : FZ g' h v = some y) : x = y := by
 have same : FZ g h v = FZ g' h v → x = y := fun e => Option.some.inj (h1.symm.trans (e.trans h2))
 cases v with
 | slice r n =>
  cases r with
  | none => cases n <;> exact same rfl
  | some p =>
   obtain ⟨id, o⟩ := p
   cases o with
   | succ o => exact same rfl
   | zero =>
    unfold FZ at h1 h2 same
    cases hb : Nat.beq n 0 with
    | true => exact same (by simp only [hb, cond_true])
    | false =>
     simp only [hb, cond_false] at h1 h2 same
     cases ho : h.get id with
     | none => rw [ho] at h1; cases h1
     | some ob =>
      rw [ho] at h1 h2 same
      cases ob with
      | cells gr st cs =>
       cases st with
       | zero => cases cs <;> exact same rfl
       | succ st =>
        cases st with
        | zero => cases h1
        | succ st =>
         cases st with
         | zero =>
          cases m1 : g.may id with
          | false => simp [m1] at h1
          | true =>
           cases m2 : g'.may id with
           | false => simp [m2] at h2
           | true =>
            simp only [m1, cond_true] at h1
            simp only [m2, cond_true] at h2
            exact Option.some.inj (h1.symm.trans h2)
         | succ st => cases h1
      | _ => cases h1
 | _ => exact same rfl
theorem HH.ZR {r : Option Nat} {e : TypeId} {cs : List AA} {n z : Nat} {pr : List Nat} (a : HH g h (.Ak r e cs :: L) F) (hn : cs.length = n * z) (hz : z ≠ 0) (hp : Sn L pr) : ∃ h', FZ ⟨g.floor, pr ++ g.Cl⟩ h (Af r n) = some (.Gg n cs, h') ∧ HH g h' L F := by
 obtain ⟨h1, e1, A1⟩ := a.bH hn hz
 obtain ⟨h2, e2, A2⟩ := (a.Lk 1 hp).bH hn hz
 have := UY e1 e2
 cases this
 exact ⟨h1, e2, A1⟩
theorem HH.Wa {pr : List Nat} {n : Nat} {L' : List Ck} (a : HH g h L F) (b : HH ⟨g.floor, pr ++ g.Cl⟩ h' L' (L.drop n ++ F)) : HH g h' (L' ++ L.drop n) F :=
 a.glue b (fun i hm => by
  simp only [Gd.may, Bool.and_eq_true, Bool.not_eq_true', List.any_append, Bool.or_eq_false_iff] at hm ⊢
  exact ⟨hm.1, hm.2.2⟩) (fun i hi => List.mem_append.2 (.inr hi)) rfl
end
section
variable {C : FY} {g : Gd} {h : AD} {f : FuncId}
theorem OW {args : List AA} {n : Nat} {rs : List ResultVar} {R : AA → AD → Prop} (hf : GQ C.P f = some (n, rs))
  (hh : AW C f g (EX C.P f) (args ++ List.replicate (n - args.length) (.tuple [])) h (fun e fr h' => (e = .ret ∨ e = .normal) ∧ ∃ v, KX C.P rs fr h' = some v ∧ R v h')) : ∃ v h', ON C g h f args v h' ∧ R v h' := by
 obtain ⟨m, e, fr', h2, hx, ⟨hq, v, hv, hR⟩⟩ := hh.ex
 exact ⟨v, h2, XI hf ⟨⟨m, e, fr', h2, hx, ⟨hq, hv, rfl⟩⟩⟩, hR⟩
theorem YZ {args args' : List AA} {n : Nat} {rs : List ResultVar} {R : AA → AD → Prop} (hk : C.kind f = 1) (hc : BG (C.still f) args = args') (hf : GQ C.P f = some (n, rs))
  (hh : AW C f g (EX C.P f) (args' ++ List.replicate (n - args'.length) (.tuple [])) h (fun e fr h' => (e = .ret ∨ e = .normal) ∧ ∃ v, KX C.P rs fr h' = some v ∧ R v h')) : ∃ v h', BH C g h f args v h' ∧ R v h' := by
 obtain ⟨v, h', hb, hR⟩ := OW hf hh
 exact ⟨v, h', Zo hk hc hb, hR⟩
theorem Yv {args args' : List AA} {n : Nat} {rs : List ResultVar} {R : AA → AD → Prop} (hk : C.kind f = 7) (hc : BG (C.still f) args = args') (hf : GQ C.P f = some (n, rs))
  (hh : AW C f g (EX C.P f) (args' ++ List.replicate (n - args'.length) (.tuple [])) h (fun e fr h' => (e = .ret ∨ e = .normal) ∧ ∃ v, KX C.P rs fr h' = some v ∧ ∃ v' h'', NA g h' v = some (v', h'') ∧ R v' h'')) : ∃ v h', BH C g h f args v h' ∧ R v h' := by
 obtain ⟨v, h', hb, v', h'', hz, hR⟩ := OW hf hh
 exact ⟨v', h'', Zr hk hc hb hz, hR⟩
theorem ai {P : Program} {fr : Fr} {N : Nat} {l : List (Nat × AA)} {rs : List ResultVar} {v : AA} (H : Has fr N l) (hr : ∀ fr, KX P rs (CN N l fr) h = some v) : KX P rs fr h = some v := by
 have := hr fr
 rwa [Dj H] at this
theorem bK {fr : Fr} {N : Nat} {l : List (Nat × AA)} {t : Nat} {v : AA} (H : Has fr N l) (hr : ∀ fr, nth (CN N l fr) t = v) : nth fr t = v := by
 have := hr fr
 rwa [Dj H] at this
end
section
variable {g : Gd} {h : AD}
theorem ZW (vs : List AA) : NA g h (.tuple vs) = (JT (Ji g) vs h).map fun r => (.tuple r.1, r.2) := rfl
theorem Zn (cs : List AA) : NA g h (.agg cs) = (JT (FZ g) cs h).map fun r => (.agg r.1, r.2) := rfl
theorem ZS (r : Option Nat) (n : Nat) : NA g h (Af r n) = FZ g h (Af r n) := rfl
theorem Z8 (n : Nat) (cs : List AA) : NA g h (.Gg n cs) = some (.Gg n cs, h) := rfl
theorem Zp (cs : List AA) : Ji g h (.agg cs) = (JT (FZ g) cs h).map fun r => (.agg r.1, r.2) := rfl
theorem Yr (r : Option Nat) (n : Nat) : Ji g h (Af r n) = FZ g h (Af r n) := rfl
theorem Y2 (n : Nat) (cs : List AA) : Ji g h (.Gg n cs) = some (.Gg n cs, h) := rfl
theorem YH (k : IntKind) (n : Int) : Ji g h (.int k n) = some (.int k n, h) := rfl
theorem Yd (b : Bool) : Ji g h (.bool b) = some (.bool b, h) := rfl
theorem ZA (s : List UInt8) : Ji g h (.str s) = some (.str s, h) := rfl
theorem Yx : Ji g h (.slice none 0) = some (.Gg 0 [], h) := rfl
theorem Yw (f : AD → AA → Option (AA × AD)) : JT f [] h = some ([], h) := rfl
theorem Yk (f : AD → AA → Option (AA × AD)) (v : AA) (vs : List AA) : JT f (v :: vs) h = (match f h v with | some (v', h1) => (JT f vs h1).map fun r => (v' :: r.1, r.2) | none => none) := rfl
theorem Zf (k : IntKind) (n : Int) : FZ g h (.int k n) = some (.int k n, h) := rfl
theorem ZX (b : Bool) : FZ g h (.bool b) = some (.bool b, h) := rfl
theorem Zj (s : List UInt8) : FZ g h (.str s) = some (.str s, h) := rfl
theorem ZL (n : Nat) (cs : List AA) : FZ g h (.Gg n cs) = some (.Gg n cs, h) := rfl
theorem Z2 : FZ g h (.slice none 0) = some (.Gg 0 [], h) := rfl
end
def Xz : List (Nat × List Bool) → Nat → List Bool
 | [], _ => []
 | (a, b) :: l, f => bif Nat.beq a f then b else Xz l f
end Go.Av
