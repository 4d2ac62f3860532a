/-
  ABS, 24: plain Lean values as rows that nobody writes, and as rows of one's own; the steps on them.
-/
import Derived.Test.YthnnciphldbmeaaGreatDoorAvHH
namespace Go.Av
set_option linter.unusedVariables false
structure LM {α : Type} (e : α → List AA) (z : Nat) : Prop where
 len : ∀ x, (e x).length = z
 one : ∀ x, (e x).all AA.one = true
 can : ∀ x, (e x).map GS = e x
abbrev AL {α : Type} (e : α → List AA) (xs : List α) : List AA := xs.flatMap e
abbrev vs {α : Type} (e : α → List AA) (xs : List α) : AA := .G7 xs.length (AL e xs)
def eI (k : IntKind) (x : Int) : List AA := [.int k x]
def eB (x : Bool) : List AA := [.bool x]
def eS (x : List UInt8) : List AA := [.str x]
def eY (x : UInt8) : List AA := [.int .u8 x.toNat]
def eL {α : Type} (e : α → List AA) (xs : List α) : List AA := [vs e xs]
theorem encI (k : IntKind) : LM (eI k) 1 := ⟨fun _ => rfl, fun _ => rfl, fun _ => rfl⟩
theorem WH : LM eB 1 := ⟨fun _ => rfl, fun _ => rfl, fun _ => rfl⟩
theorem encS : LM eS 1 := ⟨fun _ => rfl, fun _ => rfl, fun _ => rfl⟩
theorem HC : LM eY 1 := ⟨fun _ => rfl, fun _ => rfl, fun _ => rfl⟩
section
variable {α : Type} {e : α → List AA} {z : Nat}
theorem LM.Ju (E : LM e z) : ∀ xs : List α, (AL e xs).length = xs.length * z
 | [] => by simp
 | x :: xs => by simp only [AL, List.flatMap_cons, List.length_append, E.len, List.length_cons]; rw [show (List.flatMap e xs).length = xs.length * z from E.Ju xs, Nat.add_mul]; omega
theorem LM.Vr (E : LM e z) (xs : List α) : (AL e xs).all AA.one = true := by
 rw [List.all_eq_true]
 intro v hv
 obtain ⟨x, _, hx⟩ := List.mem_flatMap.1 hv
 exact List.all_eq_true.1 (E.one x) v hx
theorem LM.BI (E : LM e z) : ∀ xs : List α, (AL e xs).map GS = AL e xs
 | [] => rfl
 | x :: xs => by simp only [AL, List.flatMap_cons, List.map_append, E.can]; rw [show (List.flatMap e xs).map GS = _ from E.BI xs]
theorem LM.take (E : LM e z) : ∀ (xs : List α) (n : Nat), (AL e xs).take (n * z) = AL e (xs.take n)
 | [], n => by simp
 | x :: xs, 0 => by simp
 | x :: xs, n + 1 => by
  simp only [AL, List.flatMap_cons, List.take_succ_cons]
  rw [Nat.add_mul, Nat.one_mul, Nat.add_comm, ← E.len x, List.take_length_add_append, E.len x]
  congr 1
  exact E.take xs n
theorem LM.drop (E : LM e z) : ∀ (xs : List α) (n : Nat), (AL e xs).drop (n * z) = AL e (xs.drop n)
 | [], n => by simp
 | x :: xs, 0 => by simp
 | x :: xs, n + 1 => by
  simp only [AL, List.flatMap_cons, List.drop_succ_cons]
  rw [Nat.add_mul, Nat.one_mul, Nat.add_comm, ← E.len x, List.drop_length_add_append, E.len x]
  exact E.drop xs n
theorem LM.at_ (E : LM e z) {xs : List α} {i : Nat} {x : α} (h : xs[i]? = some x) : ((AL e xs).drop (i * z)).take z = e x := by
 obtain ⟨hi, hx⟩ := List.getElem?_eq_some_iff.1 h
 rw [E.drop, List.drop_eq_getElem_cons hi, hx]
 simp only [AL, List.flatMap_cons]
 rw [← E.len x, List.take_left]
end
def HR {α : Type} (xs : List α) (i : Int) : Option α := if 0 ≤ i then xs[i.toNat]? else none
def WA {α : Type} (xs : List α) (lo hi : Option Int) : Option (List α) := (TH xs.length lo hi).map fun p => (xs.drop p.1).take (p.2 - p.1)
section
variable (P : Program) (fr : Fr)
def VY : Op → Option (Nat × List AA × Nat × Int)
 | .indexAddr t x i =>
  match P.underlying t, ev fr x, ev fr i with
  | some (.slice e), .G7 n cs, .int _ i => (Cv P e).map fun z => (n, cs, z, i)
  | _, _, _ => none
 | _ => none
def W8 : Op → Option AA
 | .load t a =>
  match ev fr a with
  | .A7 cs => Gb P (some (.cells none 1 cs)) t 0
  | _ => none
 | _ => none
def UZ : Op → Option (Nat × List AA × Nat × Option AA × Option AA)
 | .slice t x lo hi none =>
  match P.underlying t, ev fr x with
  | some (.slice e), .G7 n cs => (Cv P e).map fun z => (n, cs, z, lo.map (ev fr), hi.map (ev fr))
  | _, _ => none
 | _ => none
def QD : Op → Option (Nat × List AA)
 | .call { callee := .value x, args := as, .. } =>
  match ev fr x with
  | .Mi l => some (l, as.toList.map (ev fr))
  | _ => none
 | _ => none
end
section
variable {C : HU} {S : Self} {g : Gd} {h h1 : AH} {fr : Fr} {op : Op} {α : Type} {e : α → List AA} {z : Nat}
theorem I3 {xs : List α} {i : Int} {x : α} (E : LM e z) (hz : z ≠ 0) (hs : VY C.P fr op = some (xs.length, AL e xs, z, i)) (hl : HR xs i = some x) : Bc C S g h fr op = some (.A7 (e x), h) := by
 unfold VY at hs
 split at hs
 ·rename_i t y j
  split at hs
  ·rename_i el n cs k i' hu hv hi
   simp only [Option.map_eq_some_iff, Prod.mk.injEq] at hs
   obtain ⟨z', hz', rfl, rfl, rfl, rfl⟩ := hs
   unfold HR at hl
   split at hl
   ·rename_i h0
    have hlt := (List.getElem?_eq_some_iff.1 hl).1
    rw [FQ (by simp [BE])]
    simp only [Ih, BE, Iv, hv, hi, GU, hu]
    rw [if_pos ⟨h0, by omega⟩, hz', Option.bind_some, if_pos ⟨E.Ju xs, hz⟩, E.at_ hl]
    rfl
   ·cases hl
  ·cases hs
 ·cases hs
theorem IQ {v : AA} (hs : W8 C.P fr op = some v) : Bc C S g h fr op = some (v, h) := by
 unfold W8 at hs
 split at hs
 ·split at hs
  ·rename_i cs hv
   rw [FQ (by simp [BE])]
   simp only [Ih, BE, DX, hv, Ew, KJ, hs, Option.map_some]
  ·cases hs
 ·cases hs
theorem WB {xs ys : List α} {k k' : IntKind} {lo hi : Option Int} (E : LM e z) (hs : UZ C.P fr op = some (xs.length, AL e xs, z, lo.map (.int k ·), hi.map (.int k' ·))) (hl : WA xs lo hi = some ys) : Bc C S g h fr op = some (vs e ys, h) := by
 unfold UZ at hs
 split at hs
 ·rename_i t y lo0 hi0
  split at hs
  ·rename_i el n cs hu hv
   simp only [Option.map_eq_some_iff, Prod.mk.injEq] at hs
   obtain ⟨z', hz', rfl, rfl, rfl, e1, e2⟩ := hs
   unfold WA at hl
   simp only [Option.map_eq_some_iff] at hl
   obtain ⟨⟨l, u⟩, hb, rfl⟩ := hl
   have hb' : TH xs.length lo hi = some (l, u) := hb
   rw [← OE k k'] at hb
   have hc : BE C.P (.slice t y lo0 hi0 none) = 1 := by simp only [BE, hu]
   rw [FQ (by rw [hc]; simp)]
   simp only [Ih, hc, DX, hv, Ew, KJ, QO, hu, hz', Option.bind_some]
   rw [if_pos (E.Ju xs), e1, e2, hb]
   simp only [Option.map_some]
   rw [E.drop, E.take]
   have hle : l ≤ u ∧ u ≤ xs.length := by
    unfold TH at hb'
    split at hb'
    ·rename_i u'
     split at hb'
     ·rename_i hu'
      split at hb'
      ·rename_i l'
       split at hb'
       ·rename_i hl'; injection hb' with hb'; injection hb' with a1 a2; omega
       ·cases hb'
      ·injection hb' with hb'; injection hb' with a1 a2; omega
     ·cases hb'
    ·split at hb'
     ·rename_i l'
      split at hb'
      ·rename_i hl'; injection hb' with hb'; injection hb' with a1 a2; omega
      ·cases hb'
     ·injection hb' with hb'; injection hb' with a1 a2; omega
   have : (xs.drop l).length = xs.length - l := List.length_drop
   have hlen : ((xs.drop l).take (u - l)).length = u - l := by rw [List.length_take]; omega
   simp only [vs, hlen]
  ·cases hs
 ·cases hs
theorem OF : ∀ l : List UInt8, bytesOf (AL eY l) = some l
 | [] => rfl
 | b :: l => by
  simp only [AL, List.flatMap_cons, eY, List.singleton_append, bytesOf]
  rw [show bytesOf (List.flatMap eY l) = some l from OF l]
  simp
end
section
variable {g : Gd} {h : AH} {L F : List Ck} {α : Type} {e : α → List AA} {z : Nat}
theorem HH.to {h' : AH} (a : HH g h L F) (e : h' = h) : HH g h' L F := e ▸ a
theorem Kx (E : LM e z) (h : AH) (xs : List α) : Dv h z xs.length (vs e xs) = some (AL e xs) := by
 unfold Dv vs
 simp only
 rw [if_pos ⟨Nat.le_refl _, E.Ju xs⟩, List.take_of_length_le (by rw [E.Ju xs]; exact Nat.le_refl _)]
def OU (bytes n : Nat) : Bool := decide (n ≤ 1099511627776 ∧ n * bytes ≤ 1099511627776)
theorem HH.NQ (E : LM e z) (hz : z ≠ 0) (a : HH g h L F) (k : Nat) {r : Option Nat} {t : TypeId} {xs ys : List α} {new : List AA} {bytes m : Nat} {x : AA} (hk : L[k]? = some (.AL r t (AL e xs))) (hx : Dv h z m x = some new) (hc : new.map GS = AL e ys) (hm : m = ys.length) (hb : OU bytes (xs.length + m) = true) :
  ∃ r' h', Av.app t z bytes g h (D2 r xs.length) m x = some (D2 r' (xs ++ ys).length, h') ∧ HH g h' (L.set k (.AL r' t (AL e (xs ++ ys)))) F := by
 subst hm
 obtain ⟨r', h', h1, h2⟩ := a.app k hk (E.Ju xs) hz hx hc (E.Ju ys) (of_decide_eq_true hb) (E.Vr xs) (E.Vr ys)
 refine ⟨r', h', by rw [h1, List.length_append], ?_⟩
 have : AL e (xs ++ ys) = AL e xs ++ AL e ys := by simp [AL]
 rw [this]; exact h2
theorem HH.NP (E : LM e z) (hz : z ≠ 0) (a : HH g h L F) (k : Nat) {r : Option Nat} {t : TypeId} {xs : List α} (hk : L[k]? = some (.AL r t (AL e xs))) {i : Int} {x : α} (hi : HR xs i = some x) :
  ∃ id, r = some id ∧ h.get id = some (.cells (some t) 2 (AL e xs)) ∧ XH (D2 r xs.length) z i = some (id, i.toNat * z) ∧ xs[i.toNat]? = some x := by
 unfold HR at hi
 split at hi
 ·rename_i h0
  have hlt := (List.getElem?_eq_some_iff.1 hi).1
  cases r with
  | none =>
   have hn : AL e xs = [] := a.mem hk
   exfalso
   have h1 := E.Ju xs
   rw [hn] at h1
   have h2 : xs.length * z = 0 := by simpa using h1.symm
   rcases Nat.mul_eq_zero.1 h2 with h | h
   ·omega
   ·exact hz h
  | some id =>
   refine ⟨id, rfl, a.mem hk, ?_, hi⟩
   simp only [D2, Option.map_some, XH]
   rw [VN, if_pos ⟨h0, by omega⟩]
   simp
 ·cases hi
theorem HH.row (a : HH g h L F) (k : Nat) {r : Option Nat} {t : TypeId} {cs : List AA} (hk : L[k]? = some (.AL r t cs)) {id : Nat} (er : r = some id) : h.get id = some (.cells (some t) 2 cs) := by
 subst er; exact a.mem hk
theorem L4 (E : LM e z) {id : Nat} {gr : Option TypeId} {xs : List α} (hg : h.get id = some (.cells gr 2 (AL e xs))) {i : Nat} {x : α} (hx : xs[i]? = some x) (o n : Nat) (hon : o + n ≤ z) : GA h (id, i * z + o) n = some (((e x).drop o).take n) := by
 have hi := (List.getElem?_eq_some_iff.1 hx).1
 have hle : (i + 1) * z ≤ xs.length * z := Nat.mul_le_mul_right _ (by omega)
 rw [Nat.add_mul, Nat.one_mul] at hle
 unfold Av.GA Cz
 simp only [hg]
 rw [if_pos ⟨by simp, by rw [E.Ju xs]; omega⟩, ← E.at_ hx, ← List.drop_drop]
 congr 1
 generalize (AL e xs).drop (i * z) = l
 rw [List.drop_take, List.take_take, Nat.min_eq_left (by omega)]
theorem FU (E : LM e z) {id : Nat} {gr : Option TypeId} {xs : List α} (hg : h.get id = some (.cells gr 2 (AL e xs))) {i : Nat} {x : α} (hx : xs[i]? = some x) {o : Nat} {v : AA} (hv : (e x)[o]? = some v) : NX h (id, i * z + o) = some v := by
 have ho := (List.getElem?_eq_some_iff.1 hv).1
 have h1 := L4 E hg hx o 1 (by rw [E.len] at ho; omega)
 unfold Av.GA at h1
 unfold Av.NX
 rw [h1, List.drop_eq_getElem_cons ho, (List.getElem?_eq_some_iff.1 hv).2]
 rfl
theorem Rj {A m B new : List AA} {o : Nat} (h : o + new.length ≤ m.length) : DY (A ++ (m ++ B)) (A.length + o) new = A ++ (DY m o new ++ B) := by
 unfold DY
 have e1 : (A ++ (m ++ B)).take (A.length + o) = A ++ m.take o := by
  rw [List.take_length_add_append, List.take_append_of_le_length (by omega)]
 have e2 : (A ++ (m ++ B)).drop (A.length + o + new.length) = m.drop (o + new.length) ++ B := by
  rw [Nat.add_assoc, List.drop_length_add_append, List.drop_append_of_le_length (by omega)]
 rw [e1, e2]
 simp [List.append_assoc]
theorem HH.WW (E : LM e z) (a : HH g h L F) (k : Nat) {r : Option Nat} {t : TypeId} {xs : List α} (hk : L[k]? = some (.AL r t (AL e xs))) {id : Nat} (er : r = some id) {i : Nat} {x y : α} (hx : xs[i]? = some x) {o : Nat} {new : List AA} (hs : DY (e x) o new = e y) (h1 : new.all AA.one = true) (hl : o + new.length ≤ z := by decide) :
  ∃ h', Av.st g h (id, i * z + o) new = some h' ∧ HH g h' (L.set k (.AL r t (AL e (xs.set i y)))) F := by
 have hg := a.row k hk er
 have hi := (List.getElem?_eq_some_iff.1 hx).1
 have hid := h.CZ hg
 have hle : (i + 1) * z ≤ xs.length * z := Nat.mul_le_mul_right _ (by omega)
 rw [Nat.add_mul, Nat.one_mul] at hle
 have hm : g.may id = true := a.QG hk (by rw [er]; simp [Ck.ids])
 refine ⟨h.set id (.cells (some t) 2 (AL e (xs.set i y))), ?_, ?_⟩
 ·unfold Av.st DO
  simp only [hg]
  rw [if_pos ⟨hm, by rw [E.Ju xs]; omega, h1⟩]
  congr 2
  have hsplit : AL e xs = AL e (xs.take i) ++ (e x ++ AL e (xs.drop (i + 1))) := by
   conv => lhs; rw [← List.take_append_drop i xs, List.drop_eq_getElem_cons hi, (List.getElem?_eq_some_iff.1 hx).2]
   simp [AL]
  have hlen : (AL e (xs.take i)).length = i * z := by rw [E.Ju, List.length_take, Nat.min_eq_left (by omega)]
  have Wg : AL e (xs.set i y) = AL e (xs.take i) ++ (e y ++ AL e (xs.drop (i + 1))) := by
   rw [List.set_eq_take_append_cons_drop, if_pos hi]
   simp [AL]
  rw [hsplit, Wg, ← hlen, Rj (by rw [E.len]; exact hl), hs]
 ·subst er
  refine a.S0 hk (by simp) (fun j _ hj => h.DV _ hid (by simpa [Ck.ids] using hj)) (h.D7 _ hid) (fun j hj => .inl hj) (fun j hj => a.QG hk hj)
theorem Lj {h1 : AH} {a : Nat × Nat} {cs : List AA} {n : Nat} (hs : st g h a cs = some h1) (hl : cs.length = n) : XI n g h a cs = some h1 := by unfold XI; rw [if_pos hl]; exact hs
def Vx (c : Int) : Option UInt8 := if 0 ≤ c ∧ c ≤ 255 then some (UInt8.ofNat c.toNat) else none
theorem N7 {c : Int} {y : UInt8} (h : Vx c = some y) : c = (y.toNat : Int) := by
 unfold Vx at h
 split at h
 ·rename_i hc
  injection h with h
  subst h
  have : (UInt8.ofNat c.toNat).toNat = c.toNat % 256 := UInt8.toNat_ofNat'
  rw [this]; omega
 ·cases h
theorem Sa {C : HU} {S : Self} {fr : Fr} {op : Op} {xs : List UInt8} (a : HH g h L F) (k : Nat) {r : Option Nat} {t : TypeId} (hk : L[k]? = some (.AL r t (AL eY xs))) (hs : Tx C.P fr op = some ((D2 r xs.length).r, xs.length)) : Bc C S g h fr op = some (.str xs, h) := by
 refine XA (s := D2 r xs.length) hs ?_
 have hok := a.mem hk
 unfold XQ D2
 cases r with
 | none =>
  have : AL eY xs = [] := hok
  have h1 := HC.Ju xs
  rw [this] at h1
  have : xs = [] := List.eq_nil_of_length_eq_zero (by simpa using h1.symm)
  subst this
  rfl
 | some id =>
  have hg : h.get id = some (.cells (some t) 2 (AL eY xs)) := hok
  simp only [Option.map_some]
  by_cases h0 : xs.length = 0
  ·have : xs = [] := List.eq_nil_of_length_eq_zero h0
   subst this
   rw [if_pos h0, hg]
   rfl
  ·rw [if_neg h0]
   unfold Cz
   simp only [hg]
   have h1 := HC.Ju xs
   rw [if_pos ⟨by simp, by rw [h1]; omega⟩, List.drop_zero, List.take_of_length_le (by rw [h1]; omega)]
   exact OF xs
def XF (bytes : Nat) (n : Int) : Bool := decide (0 ≤ n ∧ n ≤ 1099511627776 ∧ bytes * n ≤ 1099511627776)
theorem M3 {x : α} : ∀ n, FX (e x) n = AL e (List.replicate n x)
 | 0 => rfl
 | n + 1 => by rw [List.replicate_succ, AL, List.flatMap_cons, FX, M3 n]
theorem Tj {C : HU} {S : Self} {fr : Fr} {op : Op} {h1 : AH} {t : TypeId} {bytes : Nat} {n : Int} {x : α} (E : LM e z) (hs : Uu C.P fr op = some (t, bytes, e x, n, n)) (hb : XF bytes n = true) (hh : some (h.push (.cells (some t) 2 (AL e (List.replicate n.toNat x)))) = some h1) :
  Bc C S g h fr op = some (AI (some h.size) (List.replicate n.toNat x).length, h1) := by
 have hb := of_decide_eq_true hb
 have := Wr (S := S) (g := g) hs (cs := AL e (List.replicate n.toNat x)) (by unfold XD; rw [if_pos ⟨hb.1, Int.le_refl _, hb.2.1, hb.2.2⟩, M3]) hh
 rw [this, List.length_replicate]
 rfl
end
section
variable {g : Gd} {h h' : AH} {L F : List Ck}
theorem HH.KS (a : HH g h L F) (n : Nat) : HH g h (L.take n) F := by
 have hs : (CE (L.take n ++ F)).Sublist (CE (L ++ F)) := by
  rw [CH, CH]
  refine List.Sublist.append ?_ (List.Sublist.refl _)
  conv => rhs; rw [← List.take_append_drop n L, CH]
  exact List.sublist_append_left _ _
 exact ⟨fun c hc => a.ok c (by rcases List.mem_append.1 hc with h | h; exact List.mem_append.2 (.inl (List.mem_of_mem_take h)); exact List.mem_append.2 (.inr h)), a.nd.sublist hs,
  fun i hi => a.may i (by rw [← List.take_append_drop n L, CH]; exact List.mem_append.2 (.inl hi)), a.BU, a.floor⟩
inductive R9 (R : List Ck) : List Nat → Prop where
 | nil : R9 R []
 | cons {p : Nat} {ps : List Nat} {c : Ck} (k : Nat) : R[k]? = some c → p ∈ c.ids → R9 R ps → R9 R (p :: ps)
theorem R9.mem {R : List Ck} {ps : List Nat} (h : R9 R ps) : ∀ p ∈ ps, p ∈ CE R := by
 induction h with
 | nil => intro p hp; cases hp
 | cons k hk hm _ ih =>
  intro p hp
  rcases List.mem_cons.1 hp with rfl | hp
  ·simp only [CE, List.mem_flatMap]; exact ⟨_, List.mem_of_getElem? hk, hm⟩
  ·exact ih p hp
theorem HH.Gm (a : HH g h L F) (n : Nat) {pr : List Nat} (hp : R9 (L.drop n) pr) : HH ⟨g.floor, pr ++ g.BU⟩ h (L.take n) (L.drop n ++ F) := by
 refine (a.cut n).W6 (fun i hi hn => ?_) (fun i hi => ?_)
 ·have h1 := hp.mem i hn
  have h2 := a.nd
  rw [← List.take_append_drop n L, CH, CH, List.append_assoc, List.nodup_append] at h2
  exact h2.2.2 i hi i (List.mem_append.2 (.inl h1)) rfl
 ·refine a.lt (i := i) ?_
  rw [← List.take_append_drop n L, CH, CH]
  exact List.mem_append.2 (.inl (List.mem_append.2 (.inr (hp.mem i hi))))
theorem HH.OS {pr : List Nat} {n : Nat} {L' : List Ck} (a : HH g h L F) (b : HH ⟨g.floor, pr ++ g.BU⟩ h' L' (L.drop n ++ F)) : HH g h' (L' ++ L.drop n) F :=
 a.glue b (fun i hm => by
  simp only [Gd.may, Bool.and_eq_true, Bool.not_eq_true', List.any_append, Bool.or_eq_false_iff] at hm ⊢
  exact ⟨hm.1, hm.2.2⟩) (fun i hi => List.mem_append.2 (.inr hi)) rfl
end
section
variable {C : HU} {g : Gd} {h : AH} {f : FuncId}
theorem OA {args : List AA} {n : Nat} {rs : List ResultVar} {R : AA → AH → Prop} (hf : IT C.P f = some (n, rs))
  (hh : AW C f g (Le C.P f) (args ++ List.replicate (n - args.length) (.tuple [])) h (fun e fr h' => (e = .ret ∨ e = .normal) ∧ ∃ v, LL C.P rs fr h' = some v ∧ R v h')) : ∃ v h', KB C g h f args v h' ∧ R v h' := by
 obtain ⟨m, e, fr', h2, hx, ⟨hq, v, hv, hR⟩⟩ := hh.ex
 exact ⟨v, h2, VQ hf ⟨⟨m, e, fr', h2, hx, ⟨hq, hv, rfl⟩⟩⟩, hR⟩
theorem V2 {args args' : List AA} {n : Nat} {rs : List ResultVar} {R : AA → AH → Prop} (hk : C.kind f = 1) (hc : BI (C.still f) args = args') (hf : IT C.P f = some (n, rs))
  (hh : AW C f g (Le C.P f) (args' ++ List.replicate (n - args'.length) (.tuple [])) h (fun e fr h' => (e = .ret ∨ e = .normal) ∧ ∃ v, LL C.P rs fr h' = some v ∧ R v h')) : ∃ v h', BL C g h f args v h' ∧ R v h' := by
 obtain ⟨v, h', hb, hR⟩ := OA hf hh
 exact ⟨v, h', W1 hk hc hb, hR⟩
theorem Vy {args args' : List AA} {n : Nat} {rs : List ResultVar} {R : AA → AH → Prop} (hk : C.kind f = 7) (hc : BI (C.still f) args = args') (hf : IT C.P f = some (n, rs))
  (hh : AW C f g (Le C.P f) (args' ++ List.replicate (n - args'.length) (.tuple [])) h (fun e fr h' => (e = .ret ∨ e = .normal) ∧ ∃ v, LL C.P rs fr h' = some v ∧ ∃ v' h'', Og g h' v = some (v', h'') ∧ R v' h'')) : ∃ v h', BL C g h f args v h' ∧ R v h' := by
 obtain ⟨v, h', hb, v', h'', hz, hR⟩ := OA hf hh
 exact ⟨v', h'', Wf hk hc hb hz, hR⟩
theorem Vu {args args' : List AA} {n : Nat} {rs : List ResultVar} {R : AA → AH → Prop} (hk : C.kind f = 9) (hc : BI (C.still f) args = args') (hf : IT C.P f = some (n, rs))
  (hh : AW C f g (Le C.P f) (args' ++ List.replicate (n - args'.length) (.tuple [])) h (fun e fr h' => (e = .ret ∨ e = .normal) ∧ ∃ v, LL C.P rs fr h' = some v ∧ ∃ v' h'', Qz g h' v = some (v', h'') ∧ R v' h'')) : ∃ v h', BL C g h f args v h' ∧ R v h' := by
 obtain ⟨v, h', hb, v', h'', hz, hR⟩ := OA hf hh
 exact ⟨v', h'', XB hk hc hb hz, hR⟩
theorem Xh {P : Program} {fr : Fr} {N : Nat} {l : List (Nat × AA)} {rs : List ResultVar} {v : AA} (H : Has fr N l) (hr : ∀ fr, LL P rs (C3 N l fr) h = some v) : LL P rs fr h = some v := by
 have := hr fr
 rwa [Eh H] at this
theorem Xm {fr : Fr} {N : Nat} {l : List (Nat × AA)} {t : Nat} {v : AA} (H : Has fr N l) (hr : ∀ fr, nth (C3 N l fr) t = v) : nth fr t = v := by
 have := hr fr
 rwa [Eh H] at this
end
section
variable {g : Gd} {h : AH}
theorem Hw (vs : List AA) : Og g h (.tuple vs) = (IX (Mq g) vs h).map fun r => (.tuple r.1, r.2) := rfl
theorem H6 (cs : List AA) : Og g h (.agg cs) = (IX (Fx g) cs h).map fun r => (.agg r.1, r.2) := rfl
theorem Hv (r : Option Nat) (n : Nat) : Og g h (AI r n) = Fx g h (AI r n) := rfl
theorem Hs (n : Nat) (cs : List AA) : Og g h (.G7 n cs) = some (.G7 n cs, h) := rfl
theorem Hz (cs : List AA) : Mq g h (.agg cs) = (IX (Fx g) cs h).map fun r => (.agg r.1, r.2) := rfl
theorem H2 (r : Option Nat) (n : Nat) : Mq g h (AI r n) = Fx g h (AI r n) := rfl
theorem Hu (n : Nat) (cs : List AA) : Mq g h (.G7 n cs) = some (.G7 n cs, h) := rfl
theorem Hx (k : IntKind) (n : Int) : Mq g h (.int k n) = some (.int k n, h) := rfl
theorem Ht (b : Bool) : Mq g h (.bool b) = some (.bool b, h) := rfl
theorem H4 (s : List UInt8) : Mq g h (.str s) = some (.str s, h) := rfl
theorem Hr : Mq g h (.slice none 0) = some (.G7 0 [], h) := rfl
theorem F9 (f : AH → AA → Option (AA × AH)) : IX f [] h = some ([], h) := rfl
theorem Fs (f : AH → AA → Option (AA × AH)) (v : AA) (vs : List AA) : IX f (v :: vs) h = (match f h v with | some (v', h1) => (IX f vs h1).map fun r => (v' :: r.1, r.2) | none => none) := rfl
theorem Fz (k : IntKind) (n : Int) : Fx g h (.int k n) = some (.int k n, h) := rfl
theorem Fw (b : Bool) : Fx g h (.bool b) = some (.bool b, h) := rfl
theorem Fu (s : List UInt8) : Fx g h (.str s) = some (.str s, h) := rfl
theorem F7 (n : Nat) (cs : List AA) : Fx g h (.G7 n cs) = some (.G7 n cs, h) := rfl
theorem F5 : Fx g h (.slice none 0) = some (.G7 0 [], h) := rfl
end
def Ub : List (Nat × List Bool) → Nat → List Bool
 | [], _ => []
 | (a, b) :: l, f => bif Nat.beq a f then b else Ub l f
end Go.Av
