/-
  ABS, 24: plain Lean values as rows that nobody writes, and as rows of one's own; the steps on them.
-/
import Derived.Test.YthnnciphldbmeaaGreatDoorAvHH
namespace Go.Av
set_option linter.unusedVariables false
structure Ln {α : Type} (e : α → List AA) (z : Nat) : Prop where
 len : ∀ x, (e x).length = z
 one : ∀ x, (e x).all AA.one = true
 can : ∀ x, (e x).map Ge = e x
abbrev AI {α : Type} (e : α → List AA) (xs : List α) : List AA := xs.flatMap e
abbrev vs {α : Type} (e : α → List AA) (xs : List α) : AA := .HE xs.length (AI e xs)
def eI (k : IntKind) (x : Int) : List AA := [.int k x]
def eB (x : Bool) : List AA := [.bool x]
def eS (x : List UInt8) : List AA := [.str x]
def eY (x : UInt8) : List AA := [.int .u8 x.toNat]
def eL {α : Type} (e : α → List AA) (xs : List α) : List AA := [vs e xs]
theorem encI (k : IntKind) : Ln (eI k) 1 := ⟨fun _ => rfl, fun _ => rfl, fun _ => rfl⟩
theorem XN : Ln eB 1 := ⟨fun _ => rfl, fun _ => rfl, fun _ => rfl⟩
theorem encS : Ln eS 1 := ⟨fun _ => rfl, fun _ => rfl, fun _ => rfl⟩
theorem HK : Ln eY 1 := ⟨fun _ => rfl, fun _ => rfl, fun _ => rfl⟩
section
variable {α : Type} {e : α → List AA} {z : Nat}
theorem Ln.J9 (E : Ln e z) : ∀ xs : List α, (AI e xs).length = xs.length * z
 | [] => by simp
 | x :: xs => by simp only [AI, List.flatMap_cons, List.length_append, E.len, List.length_cons]; rw [show (List.flatMap e xs).length = xs.length * z from E.J9 xs, Nat.add_mul]; omega
theorem Ln.XJ (E : Ln e z) (xs : List α) : (AI e xs).all AA.one = true := by
 rw [List.all_eq_true]
 intro v hv
 obtain ⟨x, _, hx⟩ := List.mem_flatMap.1 hv
 exact List.all_eq_true.1 (E.one x) v hx
theorem Ln.BF (E : Ln e z) : ∀ xs : List α, (AI e xs).map Ge = AI e xs
 | [] => rfl
 | x :: xs => by simp only [AI, List.flatMap_cons, List.map_append, E.can]; rw [show (List.flatMap e xs).map Ge = _ from E.BF xs]
theorem Ln.take (E : Ln e z) : ∀ (xs : List α) (n : Nat), (AI e xs).take (n * z) = AI e (xs.take n)
 | [], n => by simp
 | x :: xs, 0 => by simp
 | x :: xs, n + 1 => by
  simp only [AI, List.flatMap_cons, List.take_succ_cons]
  rw [Nat.add_mul, Nat.one_mul, Nat.add_comm, ← E.len x, List.take_length_add_append, E.len x]
  congr 1
  exact E.take xs n
theorem Ln.drop (E : Ln e z) : ∀ (xs : List α) (n : Nat), (AI e xs).drop (n * z) = AI e (xs.drop n)
 | [], n => by simp
 | x :: xs, 0 => by simp
 | x :: xs, n + 1 => by
  simp only [AI, List.flatMap_cons, List.drop_succ_cons]
  rw [Nat.add_mul, Nat.one_mul, Nat.add_comm, ← E.len x, List.drop_length_add_append, E.len x]
  exact E.drop xs n
theorem Ln.at_ (E : Ln e z) {xs : List α} {i : Nat} {x : α} (h : xs[i]? = some x) : ((AI e xs).drop (i * z)).take z = e x := by
 obtain ⟨hi, hx⟩ := List.getElem?_eq_some_iff.1 h
 rw [E.drop, List.drop_eq_getElem_cons hi, hx]
 simp only [AI, List.flatMap_cons]
 rw [← E.len x, List.take_left]
end
def Fc {α : Type} (xs : List α) (i : Int) : Option α := if 0 ≤ i then xs[i.toNat]? else none
def Qb {α : Type} (xs : List α) (lo hi : Option Int) : Option (List α) := (Sg xs.length lo hi).map fun p => (xs.drop p.1).take (p.2 - p.1)
section
variable (P : Program) (fr : Fr)
def Wr : Op → Option (Nat × List AA × Nat × Int)
 | .indexAddr t x i =>
  match P.underlying t, ev fr x, ev fr i with
  | some (.slice e), .HE n cs, .int _ i => (Cg P e).map fun z => (n, cs, z, i)
  | _, _, _ => none
 | _ => none
def Xq : Op → Option AA
 | .load t a =>
  match ev fr a with
  | .A8 cs => Gp P (some (.cells none 1 cs)) t 0
  | _ => none
 | _ => none
def Uf : Op → Option (Nat × List AA × Nat × Option AA × Option AA)
 | .slice t x lo hi none =>
  match P.underlying t, ev fr x with
  | some (.slice e), .HE n cs => (Cg P e).map fun z => (n, cs, z, lo.map (ev fr), hi.map (ev fr))
  | _, _ => none
 | _ => none
def RS : Op → Option (Nat × List AA)
 | .call { callee := .value x, args := as, .. } =>
  match ev fr x with
  | .Lx l => some (l, as.toList.map (ev fr))
  | _ => none
 | _ => none
end
section
variable {C : Hc} {S : Self} {g : Gd} {h h1 : AH} {fr : Fr} {op : Op} {α : Type} {e : α → List AA} {z : Nat}
theorem GC {xs : List α} {i : Int} {x : α} (E : Ln e z) (hz : z ≠ 0) (hs : Wr C.P fr op = some (xs.length, AI e xs, z, i)) (hl : Fc xs i = some x) : Bb C S g h fr op = some (.A8 (e x), h) := by
 unfold Wr at hs
 split at hs
 ·rename_i t y j
  split at hs
  ·rename_i el n cs k i' hu hv hi
   simp only [Option.map_eq_some_iff, Prod.mk.injEq] at hs
   obtain ⟨z', hz', rfl, rfl, rfl, rfl⟩ := hs
   unfold Fc at hl
   split at hl
   ·rename_i h0
    have hlt := (List.getElem?_eq_some_iff.1 hl).1
    rw [FP (by simp [BC])]
    simp only [IV, BC, Iz, hv, hi, Gk, hu]
    rw [if_pos ⟨h0, by omega⟩, hz', Option.bind_some, if_pos ⟨E.J9 xs, hz⟩, E.at_ hl]
    rfl
   ·cases hl
  ·cases hs
 ·cases hs
theorem G0 {v : AA} (hs : Xq C.P fr op = some v) : Bb C S g h fr op = some (v, h) := by
 unfold Xq at hs
 split at hs
 ·split at hs
  ·rename_i cs hv
   rw [FP (by simp [BC])]
   simp only [IV, BC, DW, hv, Er, Kh, hs, Option.map_some]
  ·cases hs
 ·cases hs
theorem S7 {xs ys : List α} {k k' : IntKind} {lo hi : Option Int} (E : Ln e z) (hs : Uf C.P fr op = some (xs.length, AI e xs, z, lo.map (.int k ·), hi.map (.int k' ·))) (hl : Qb xs lo hi = some ys) : Bb C S g h fr op = some (vs e ys, h) := by
 unfold Uf at hs
 split at hs
 ·rename_i t y lo0 hi0
  split at hs
  ·rename_i el n cs hu hv
   simp only [Option.map_eq_some_iff, Prod.mk.injEq] at hs
   obtain ⟨z', hz', rfl, rfl, rfl, e1, e2⟩ := hs
   unfold Qb at hl
   simp only [Option.map_eq_some_iff] at hl
   obtain ⟨⟨l, u⟩, hb, rfl⟩ := hl
   have hb' : Sg xs.length lo hi = some (l, u) := hb
   rw [← Of k k'] at hb
   have hc : BC C.P (.slice t y lo0 hi0 none) = 1 := by simp only [BC, hu]
   rw [FP (by rw [hc]; simp)]
   simp only [IV, hc, DW, hv, Er, Kh, Qo, hu, hz', Option.bind_some]
   rw [if_pos (E.J9 xs), e1, e2, hb]
   simp only [Option.map_some]
   rw [E.drop, E.take]
   have hle : l ≤ u ∧ u ≤ xs.length := by
    unfold Sg at hb'
    split at hb'
    ·rename_i u'
     split at hb'
     ·rename_i hu'
      split at hb'
      ·rename_i l'
       split at hb'
       ·rename_i hl'; injection hb' with hb'; injection hb' with a1 a2; omega
       ·cases hb'
      ·injection hb' with hb'; injection hb' with a1 a2; omega
     ·cases hb'
    ·split at hb'
     ·rename_i l'
      split at hb'
      ·rename_i hl'; injection hb' with hb'; injection hb' with a1 a2; omega
      ·cases hb'
     ·injection hb' with hb'; injection hb' with a1 a2; omega
   have : (xs.drop l).length = xs.length - l := List.length_drop
   have hlen : ((xs.drop l).take (u - l)).length = u - l := by rw [List.length_take]; omega
   simp only [vs, hlen]
  ·cases hs
 ·cases hs
theorem OZ : ∀ l : List UInt8, bytesOf (AI eY l) = some l
 | [] => rfl
 | b :: l => by
  simp only [AI, List.flatMap_cons, eY, List.singleton_append, bytesOf]
  rw [show bytesOf (List.flatMap eY l) = some l from OZ l]
  simp
end
section
variable {g : Gd} {h : AH} {L F : List Ck} {α : Type} {e : α → List AA} {z : Nat}
theorem HH.to {h' : AH} (a : HH g h L F) (e : h' = h) : HH g h' L F := e ▸ a
theorem K3 (E : Ln e z) (h : AH) (xs : List α) : Dt h z xs.length (vs e xs) = some (AI e xs) := by
 unfold Dt vs
 simp only
 rw [if_pos ⟨Nat.le_refl _, E.J9 xs⟩, List.take_of_length_le (by rw [E.J9 xs]; exact Nat.le_refl _)]
def Nd (bytes n : Nat) : Bool := decide (n ≤ 1099511627776 ∧ n * bytes ≤ 1099511627776)
theorem HH.Ko (E : Ln e z) (hz : z ≠ 0) (a : HH g h L F) (k : Nat) {r : Option Nat} {t : TypeId} {xs ys : List α} {new : List AA} {bytes m : Nat} {x : AA} (hk : L[k]? = some (.AI r t (AI e xs))) (hx : Dt h z m x = some new) (hc : new.map Ge = AI e ys) (hm : m = ys.length) (hb : Nd bytes (xs.length + m) = true) :
  ∃ r' h', Av.app t z bytes g h (Cs r xs.length) m x = some (Cs r' (xs ++ ys).length, h') ∧ HH g h' (L.set k (.AI r' t (AI e (xs ++ ys)))) F := by
 subst hm
 obtain ⟨r', h', h1, h2⟩ := a.app k hk (E.J9 xs) hz hx hc (E.J9 ys) (of_decide_eq_true hb) (E.XJ xs) (E.XJ ys)
 refine ⟨r', h', by rw [h1, List.length_append], ?_⟩
 have : AI e (xs ++ ys) = AI e xs ++ AI e ys := by simp [AI]
 rw [this]; exact h2
theorem HH.Kn (E : Ln e z) (hz : z ≠ 0) (a : HH g h L F) (k : Nat) {r : Option Nat} {t : TypeId} {xs : List α} (hk : L[k]? = some (.AI r t (AI e xs))) {i : Int} {x : α} (hi : Fc xs i = some x) :
  ∃ id, r = some id ∧ h.get id = some (.cells (some t) 2 (AI e xs)) ∧ Yb (Cs r xs.length) z i = some (id, i.toNat * z) ∧ xs[i.toNat]? = some x := by
 unfold Fc at hi
 split at hi
 ·rename_i h0
  have hlt := (List.getElem?_eq_some_iff.1 hi).1
  cases r with
  | none =>
   have hn : AI e xs = [] := a.mem hk
   exfalso
   have h1 := E.J9 xs
   rw [hn] at h1
   have h2 : xs.length * z = 0 := by simpa using h1.symm
   rcases Nat.mul_eq_zero.1 h2 with h | h
   ·omega
   ·exact hz h
  | some id =>
   refine ⟨id, rfl, a.mem hk, ?_, hi⟩
   simp only [Cs, Option.map_some, Yb]
   rw [WC, if_pos ⟨h0, by omega⟩]
   simp
 ·cases hi
theorem HH.row (a : HH g h L F) (k : Nat) {r : Option Nat} {t : TypeId} {cs : List AA} (hk : L[k]? = some (.AI r t cs)) {id : Nat} (er : r = some id) : h.get id = some (.cells (some t) 2 cs) := by
 subst er; exact a.mem hk
theorem KE (E : Ln e z) {id : Nat} {gr : Option TypeId} {xs : List α} (hg : h.get id = some (.cells gr 2 (AI e xs))) {i : Nat} {x : α} (hx : xs[i]? = some x) (o n : Nat) (hon : o + n ≤ z) : HG h (id, i * z + o) n = some (((e x).drop o).take n) := by
 have hi := (List.getElem?_eq_some_iff.1 hx).1
 have hle : (i + 1) * z ≤ xs.length * z := Nat.mul_le_mul_right _ (by omega)
 rw [Nat.add_mul, Nat.one_mul] at hle
 unfold Av.HG Cx
 simp only [hg]
 rw [if_pos ⟨by simp, by rw [E.J9 xs]; omega⟩, ← E.at_ hx, ← List.drop_drop]
 congr 1
 generalize (AI e xs).drop (i * z) = l
 rw [List.drop_take, List.take_take, Nat.min_eq_left (by omega)]
theorem DD (E : Ln e z) {id : Nat} {gr : Option TypeId} {xs : List α} (hg : h.get id = some (.cells gr 2 (AI e xs))) {i : Nat} {x : α} (hx : xs[i]? = some x) {o : Nat} {v : AA} (hv : (e x)[o]? = some v) : OI h (id, i * z + o) = some v := by
 have ho := (List.getElem?_eq_some_iff.1 hv).1
 have h1 := KE E hg hx o 1 (by rw [E.len] at ho; omega)
 unfold Av.HG at h1
 unfold Av.OI
 rw [h1, List.drop_eq_getElem_cons ho, (List.getElem?_eq_some_iff.1 hv).2]
 rfl
theorem Si {A m B new : List AA} {o : Nat} (h : o + new.length ≤ m.length) : Dh (A ++ (m ++ B)) (A.length + o) new = A ++ (Dh m o new ++ B) := by
 unfold Dh
 have e1 : (A ++ (m ++ B)).take (A.length + o) = A ++ m.take o := by
  rw [List.take_length_add_append, List.take_append_of_le_length (by omega)]
 have e2 : (A ++ (m ++ B)).drop (A.length + o + new.length) = m.drop (o + new.length) ++ B := by
  rw [Nat.add_assoc, List.drop_length_add_append, List.drop_append_of_le_length (by omega)]
 rw [e1, e2]
 simp [List.append_assoc]
theorem HH.Xg (E : Ln e z) (a : HH g h L F) (k : Nat) {r : Option Nat} {t : TypeId} {xs : List α} (hk : L[k]? = some (.AI r t (AI e xs))) {id : Nat} (er : r = some id) {i : Nat} {x y : α} (hx : xs[i]? = some x) {o : Nat} {new : List AA} (hs : Dh (e x) o new = e y) (h1 : new.all AA.one = true) (hl : o + new.length ≤ z := by decide) :
  ∃ h', Av.st g h (id, i * z + o) new = some h' ∧ HH g h' (L.set k (.AI r t (AI e (xs.set i y)))) F := by
 have hg := a.row k hk er
 have hi := (List.getElem?_eq_some_iff.1 hx).1
 have hid := h.CV hg
 have hle : (i + 1) * z ≤ xs.length * z := Nat.mul_le_mul_right _ (by omega)
 rw [Nat.add_mul, Nat.one_mul] at hle
 have hm : g.may id = true := a.RI hk (by rw [er]; simp [Ck.ids])
 refine ⟨h.set id (.cells (some t) 2 (AI e (xs.set i y))), ?_, ?_⟩
 ·unfold Av.st DO
  simp only [hg]
  rw [if_pos ⟨hm, by rw [E.J9 xs]; omega, h1⟩]
  congr 2
  have hsplit : AI e xs = AI e (xs.take i) ++ (e x ++ AI e (xs.drop (i + 1))) := by
   conv => lhs; rw [← List.take_append_drop i xs, List.drop_eq_getElem_cons hi, (List.getElem?_eq_some_iff.1 hx).2]
   simp [AI]
  have hlen : (AI e (xs.take i)).length = i * z := by rw [E.J9, List.length_take, Nat.min_eq_left (by omega)]
  have YC : AI e (xs.set i y) = AI e (xs.take i) ++ (e y ++ AI e (xs.drop (i + 1))) := by
   rw [List.set_eq_take_append_cons_drop, if_pos hi]
   simp [AI]
  rw [hsplit, YC, ← hlen, Si (by rw [E.len]; exact hl), hs]
 ·subst er
  refine a.UN hk (by simp) (fun j _ hj => h.DY _ hid (by simpa [Ck.ids] using hj)) (h.D8 _ hid) (fun j hj => .inl hj) (fun j hj => a.RI hk hj)
theorem RG {h1 : AH} {a : Nat × Nat} {cs : List AA} {n : Nat} (hs : st g h a cs = some h1) (hl : cs.length = n) : Yc n g h a cs = some h1 := by unfold Yc; rw [if_pos hl]; exact hs
def XW (c : Int) : Option UInt8 := if 0 ≤ c ∧ c ≤ 255 then some (UInt8.ofNat c.toNat) else none
theorem PK {c : Int} {y : UInt8} (h : XW c = some y) : c = (y.toNat : Int) := by
 unfold XW at h
 split at h
 ·rename_i hc
  injection h with h
  subst h
  have : (UInt8.ofNat c.toNat).toNat = c.toNat % 256 := UInt8.toNat_ofNat'
  rw [this]; omega
 ·cases h
theorem To {C : Hc} {S : Self} {fr : Fr} {op : Op} {xs : List UInt8} (a : HH g h L F) (k : Nat) {r : Option Nat} {t : TypeId} (hk : L[k]? = some (.AI r t (AI eY xs))) (hs : VF C.P fr op = some ((Cs r xs.length).r, xs.length)) : Bb C S g h fr op = some (.str xs, h) := by
 refine Xo (s := Cs r xs.length) hs ?_
 have hok := a.mem hk
 unfold Yt Cs
 cases r with
 | none =>
  have : AI eY xs = [] := hok
  have h1 := HK.J9 xs
  rw [this] at h1
  have : xs = [] := List.eq_nil_of_length_eq_zero (by simpa using h1.symm)
  subst this
  rfl
 | some id =>
  have hg : h.get id = some (.cells (some t) 2 (AI eY xs)) := hok
  simp only [Option.map_some]
  by_cases h0 : xs.length = 0
  ·have : xs = [] := List.eq_nil_of_length_eq_zero h0
   subst this
   rw [if_pos h0, hg]
   rfl
  ·rw [if_neg h0]
   unfold Cx
   simp only [hg]
   have h1 := HK.J9 xs
   rw [if_pos ⟨by simp, by rw [h1]; omega⟩, List.drop_zero, List.take_of_length_le (by rw [h1]; omega)]
   exact OZ xs
def Ya (bytes : Nat) (n : Int) : Bool := decide (0 ≤ n ∧ n ≤ 1099511627776 ∧ bytes * n ≤ 1099511627776)
theorem Nn {x : α} : ∀ n, FQ (e x) n = AI e (List.replicate n x)
 | 0 => rfl
 | n + 1 => by rw [List.replicate_succ, AI, List.flatMap_cons, FQ, Nn n]
theorem U6 {C : Hc} {S : Self} {fr : Fr} {op : Op} {h1 : AH} {t : TypeId} {bytes : Nat} {n : Int} {x : α} (E : Ln e z) (hs : Vz C.P fr op = some (t, bytes, e x, n, n)) (hb : Ya bytes n = true) (hh : some (h.push (.cells (some t) 2 (AI e (List.replicate n.toNat x)))) = some h1) :
  Bb C S g h fr op = some (AF (some h.size) (List.replicate n.toNat x).length, h1) := by
 have hb := of_decide_eq_true hb
 have := X7 (S := S) (g := g) hs (cs := AI e (List.replicate n.toNat x)) (by unfold YX; rw [if_pos ⟨hb.1, Int.le_refl _, hb.2.1, hb.2.2⟩, Nn]) hh
 rw [this, List.length_replicate]
 rfl
end
section
variable {g : Gd} {h h' : AH} {L F : List Ck}
theorem HH.JS (a : HH g h L F) (n : Nat) : HH g h (L.take n) F := by
 have hs : (CA (L.take n ++ F)).Sublist (CA (L ++ F)) := by
  rw [CH, CH]
  refine List.Sublist.append ?_ (List.Sublist.refl _)
  conv => rhs; rw [← List.take_append_drop n L, CH]
  exact List.sublist_append_left _ _
 exact ⟨fun c hc => a.ok c (by rcases List.mem_append.1 hc with h | h; exact List.mem_append.2 (.inl (List.mem_of_mem_take h)); exact List.mem_append.2 (.inr h)), a.nd.sublist hs,
  fun i hi => a.may i (by rw [← List.take_append_drop n L, CH]; exact List.mem_append.2 (.inl hi)), a.Bq, a.floor⟩
inductive S6 (R : List Ck) : List Nat → Prop where
 | nil : S6 R []
 | cons {p : Nat} {ps : List Nat} {c : Ck} (k : Nat) : R[k]? = some c → p ∈ c.ids → S6 R ps → S6 R (p :: ps)
theorem S6.mem {R : List Ck} {ps : List Nat} (h : S6 R ps) : ∀ p ∈ ps, p ∈ CA R := by
 induction h with
 | nil => intro p hp; cases hp
 | cons k hk hm _ ih =>
  intro p hp
  rcases List.mem_cons.1 hp with rfl | hp
  ·simp only [CA, List.mem_flatMap]; exact ⟨_, List.mem_of_getElem? hk, hm⟩
  ·exact ih p hp
theorem HH.J1 (a : HH g h L F) (n : Nat) {pr : List Nat} (hp : S6 (L.drop n) pr) : HH ⟨g.floor, pr ++ g.Bq⟩ h (L.take n) (L.drop n ++ F) := by
 refine (a.cut n).YH (fun i hi hn => ?_) (fun i hi => ?_)
 ·have h1 := hp.mem i hn
  have h2 := a.nd
  rw [← List.take_append_drop n L, CH, CH, List.append_assoc, List.nodup_append] at h2
  exact h2.2.2 i hi i (List.mem_append.2 (.inl h1)) rfl
 ·refine a.lt (i := i) ?_
  rw [← List.take_append_drop n L, CH, CH]
  exact List.mem_append.2 (.inl (List.mem_append.2 (.inr (hp.mem i hi))))
theorem HH.VA {pr : List Nat} {n : Nat} {L' : List Ck} (a : HH g h L F) (b : HH ⟨g.floor, pr ++ g.Bq⟩ h' L' (L.drop n ++ F)) : HH g h' (L' ++ L.drop n) F :=
 a.glue b (fun i hm => by
  simp only [Gd.may, Bool.and_eq_true, Bool.not_eq_true', List.any_append, Bool.or_eq_false_iff] at hm ⊢
  exact ⟨hm.1, hm.2.2⟩) (fun i hi => List.mem_append.2 (.inr hi)) rfl
end
section
variable {C : Hc} {g : Gd} {h : AH} {f : FuncId}
theorem OY {args : List AA} {n : Nat} {rs : List ResultVar} {R : AA → AH → Prop} (hf : IK C.P f = some (n, rs))
  (hh : AW C f g (L2 C.P f) (args ++ List.replicate (n - args.length) (.tuple [])) h (fun e fr h' => (e = .ret ∨ e = .normal) ∧ ∃ v, Lv C.P rs fr h' = some v ∧ R v h')) : ∃ v h', KU C g h f args v h' ∧ R v h' := by
 obtain ⟨m, e, fr', h2, hx, ⟨hq, v, hv, hR⟩⟩ := hh.ex
 exact ⟨v, h2, WY hf ⟨⟨m, e, fr', h2, hx, ⟨hq, hv, rfl⟩⟩⟩, hR⟩
theorem XS {args args' : List AA} {n : Nat} {rs : List ResultVar} {R : AA → AH → Prop} (hk : C.kind f = 1) (hc : BF (C.still f) args = args') (hf : IK C.P f = some (n, rs))
  (hh : AW C f g (L2 C.P f) (args' ++ List.replicate (n - args'.length) (.tuple [])) h (fun e fr h' => (e = .ret ∨ e = .normal) ∧ ∃ v, Lv C.P rs fr h' = some v ∧ R v h')) : ∃ v h', BL C g h f args v h' ∧ R v h' := by
 obtain ⟨v, h', hb, hR⟩ := OY hf hh
 exact ⟨v, h', X4 hk hc hb, hR⟩
theorem XG {args args' : List AA} {n : Nat} {rs : List ResultVar} {R : AA → AH → Prop} (hk : C.kind f = 7) (hc : BF (C.still f) args = args') (hf : IK C.P f = some (n, rs))
  (hh : AW C f g (L2 C.P f) (args' ++ List.replicate (n - args'.length) (.tuple [])) h (fun e fr h' => (e = .ret ∨ e = .normal) ∧ ∃ v, Lv C.P rs fr h' = some v ∧ ∃ v' h'', Pk g h' v = some (v', h'') ∧ R v' h'')) : ∃ v h', BL C g h f args v h' ∧ R v h' := by
 obtain ⟨v, h', hb, v', h'', hz, hR⟩ := OY hf hh
 exact ⟨v', h'', YA hk hc hb hz, hR⟩
theorem XT {args args' : List AA} {n : Nat} {rs : List ResultVar} {R : AA → AH → Prop} (hk : C.kind f = 9) (hc : BF (C.still f) args = args') (hf : IK C.P f = some (n, rs))
  (hh : AW C f g (L2 C.P f) (args' ++ List.replicate (n - args'.length) (.tuple [])) h (fun e fr h' => (e = .ret ∨ e = .normal) ∧ ∃ v, Lv C.P rs fr h' = some v ∧ ∃ v' h'', SW g h' v = some (v', h'') ∧ R v' h'')) : ∃ v h', BL C g h f args v h' ∧ R v h' := by
 obtain ⟨v, h', hb, v', h'', hz, hR⟩ := OY hf hh
 exact ⟨v', h'', Xp hk hc hb hz, hR⟩
theorem Ys {P : Program} {fr : Fr} {N : Nat} {l : List (Nat × AA)} {rs : List ResultVar} {v : AA} (H : Has fr N l) (hr : ∀ fr, Lv P rs (Cz N l fr) h = some v) : Lv P rs fr h = some v := by
 have := hr fr
 rwa [Eg H] at this
theorem Y2 {fr : Fr} {N : Nat} {l : List (Nat × AA)} {t : Nat} {v : AA} (H : Has fr N l) (hr : ∀ fr, nth (Cz N l fr) t = v) : nth fr t = v := by
 have := hr fr
 rwa [Eg H] at this
end
section
variable {g : Gd} {h : AH}
theorem I1 (vs : List AA) : Pk g h (.tuple vs) = (Iy (NR g) vs h).map fun r => (.tuple r.1, r.2) := rfl
theorem I4 (cs : List AA) : Pk g h (.agg cs) = (Iy (Fu g) cs h).map fun r => (.agg r.1, r.2) := rfl
theorem I5 (r : Option Nat) (n : Nat) : Pk g h (AF r n) = Fu g h (AF r n) := rfl
theorem JC (n : Nat) (cs : List AA) : Pk g h (.HE n cs) = some (.HE n cs, h) := rfl
theorem JB (cs : List AA) : NR g h (.agg cs) = (Iy (Fu g) cs h).map fun r => (.agg r.1, r.2) := rfl
theorem I2 (r : Option Nat) (n : Nat) : NR g h (AF r n) = Fu g h (AF r n) := rfl
theorem I9 (n : Nat) (cs : List AA) : NR g h (.HE n cs) = some (.HE n cs, h) := rfl
theorem I7 (k : IntKind) (n : Int) : NR g h (.int k n) = some (.int k n, h) := rfl
theorem I3 (b : Bool) : NR g h (.bool b) = some (.bool b, h) := rfl
theorem JA (s : List UInt8) : NR g h (.str s) = some (.str s, h) := rfl
theorem I8 : NR g h (.slice none 0) = some (.HE 0 [], h) := rfl
theorem GY (f : AH → AA → Option (AA × AH)) : Iy f [] h = some ([], h) := rfl
theorem GN (f : AH → AA → Option (AA × AH)) (v : AA) (vs : List AA) : Iy f (v :: vs) h = (match f h v with | some (v', h1) => (Iy f vs h1).map fun r => (v' :: r.1, r.2) | none => none) := rfl
theorem GQ (k : IntKind) (n : Int) : Fu g h (.int k n) = some (.int k n, h) := rfl
theorem GW (b : Bool) : Fu g h (.bool b) = some (.bool b, h) := rfl
theorem GJ (s : List UInt8) : Fu g h (.str s) = some (.str s, h) := rfl
theorem GP (n : Nat) (cs : List AA) : Fu g h (.HE n cs) = some (.HE n cs, h) := rfl
theorem GL : Fu g h (.slice none 0) = some (.HE 0 [], h) := rfl
end
def VX : List (Nat × List Bool) → Nat → List Bool
 | [], _ => []
 | (a, b) :: l, f => bif Nat.beq a f then b else VX l f
end Go.Av
