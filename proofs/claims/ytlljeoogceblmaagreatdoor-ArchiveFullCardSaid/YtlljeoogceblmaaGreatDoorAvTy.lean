/-
 A part.
-/
import Derived.Test.YtlljeoogceblmaaGreatDoorAvHH
namespace Go.Av
set_option linter.unusedVariables false
structure Jh {α : Type} (e : α → List AB) (z : Nat) : Prop where
 len : ∀ x, (e x).length = z
 one : ∀ x, (e x).all AB.one = true
 can : ∀ x, (e x).map Em = e x
abbrev AQ {α : Type} (e : α → List AB) (xs : List α) : List AB := xs.flatMap e
abbrev vs {α : Type} (e : α → List AB) (xs : List α) : AB := .Gt xs.length (AQ e xs)
def eI (k : IntKind) (x : Int) : List AB := [.int k x]
def eS (x : List UInt8) : List AB := [.str x]
def eY (x : UInt8) : List AB := [.int .u8 x.toNat]
theorem encI (k : IntKind) : Jh (eI k) 1 := ⟨fun _ => rfl, fun _ => rfl, fun _ => rfl⟩
theorem encS : Jh eS 1 := ⟨fun _ => rfl, fun _ => rfl, fun _ => rfl⟩
theorem Df : Jh eY 1 := ⟨fun _ => rfl, fun _ => rfl, fun _ => rfl⟩
section
variable {α : Type} {e : α → List AB} {z : Nat}
theorem Jh.Gb (E : Jh e z) : ∀ xs : List α, (AQ e xs).length = xs.length * z
 | [] => by simp
 | x :: xs => by simp only [AQ, List.flatMap_cons, List.length_append, E.len, List.length_cons]; rw [show (List.flatMap e xs).length = xs.length * z from E.Gb xs, Nat.add_mul]; omega
theorem Jh.VQ (E : Jh e z) (xs : List α) : (AQ e xs).all AB.one = true := by
 rw [List.all_eq_true]
 intro v J
 obtain ⟨x, _, I⟩ := List.mem_flatMap.1 J
 exact List.all_eq_true.1 (E.one x) v I
theorem Jh.BP (E : Jh e z) : ∀ xs : List α, (AQ e xs).map Em = AQ e xs
 | [] => rfl
 | x :: xs => by simp only [AQ, List.flatMap_cons, List.map_append, E.can]; rw [show (List.flatMap e xs).map Em = _ from E.BP xs]
theorem Jh.take (E : Jh e z) : ∀ (xs : List α) (n : Nat), (AQ e xs).take (n * z) = AQ e (xs.take n)
 | [], n => by simp
 | x :: xs, 0 => by simp
 | x :: xs, n + 1 => by
  simp only [AQ, List.flatMap_cons, List.take_succ_cons]
  rw [Nat.add_mul, Nat.one_mul, Nat.add_comm, ← E.len x, List.take_length_add_append, E.len x]
  congr 1
  exact E.take xs n
theorem Jh.drop (E : Jh e z) : ∀ (xs : List α) (n : Nat), (AQ e xs).drop (n * z) = AQ e (xs.drop n)
 | [], n => by simp
 | x :: xs, 0 => by simp
 | x :: xs, n + 1 => by
  simp only [AQ, List.flatMap_cons, List.drop_succ_cons]
  rw [Nat.add_mul, Nat.one_mul, Nat.add_comm, ← E.len x, List.drop_length_add_append, E.len x]
  exact E.drop xs n
theorem Jh.at_ (E : Jh e z) {xs : List α} {i : Nat} {x : α} (h : xs[i]? = some x) : ((AQ e xs).drop (i * z)).take z = e x := by
 obtain ⟨hi, I⟩ := List.getElem?_eq_some_iff.1 h
 rw [E.drop, List.drop_eq_getElem_cons hi, I]
 simp only [AQ, List.flatMap_cons]
 rw [← E.len x, List.take_left]
end
def Ii {α : Type} (xs : List α) (i : Int) : Option α := if 0 ≤ i then xs[i.toNat]? else none
def Kd {α : Type} (xs : List α) (lo hi : Option Int) : Option (List α) := (RD xs.length lo hi).map fun p => (xs.drop p.1).take (p.2 - p.1)
section
variable (P : Program) (fr : Fr)
def WW : Op → Option (Nat × List AB × Nat × Int)
 | .indexAddr t x i =>
  match P.underlying t, ev fr x, ev fr i with
  | some (.slice e), .Gt n cs, .int _ i => (CQ P e).map fun z => (n, cs, z, i)
  | _, _, _ => none
 | _ => none
def YQ : Op → Option AB
 | .load t a =>
  match ev fr a with
  | .An cs => GH P (some (.cells none 1 cs)) t 0
  | _ => none
 | _ => none
def UI : Op → Option (Nat × List AB × Nat × Option AB × Option AB)
 | .slice t x lo hi none =>
  match P.underlying t, ev fr x with
  | some (.slice e), .Gt n cs => (CQ P e).map fun z => (n, cs, z, lo.map (ev fr), hi.map (ev fr))
  | _, _ => none
 | _ => none
def WJ : Op → Option (Nat × List AB)
 | .convert s d x =>
  match P.underlying s, P.underlying d, ev fr x with
  | some (.slice e), some .string, .Gt n cs => match P.underlying e with | some (.int .u8) => some (n, cs) | _ => none
  | _, _, _ => none
 | _ => none
end
section
variable {C : E8} {S : Self} {g : Gd} {h h1 : AF} {fr : Fr} {op : Op} {α : Type} {e : α → List AB} {z : Nat}
theorem Ul {xs : List α} {i : Int} {x : α} (E : Jh e z) (X : z ≠ 0) (G : WW C.P fr op = some (xs.length, AQ e xs, z, i)) (K : Ii xs i = some x) : BO C S g h fr op = some (.An (e x), h) := by
 unfold WW at G
 split at G
 ·rename_i t y j
  split at G
  ·rename_i el n cs k i' hu J hi
   simp only [Option.map_eq_some_iff, Prod.mk.injEq] at G
   obtain ⟨z', W, rfl, rfl, rfl, rfl⟩ := G
   unfold Ii at K
   split at K
   ·rename_i h0
    have hlt := (List.getElem?_eq_some_iff.1 K).1
    rw [E6 (by simp [BA])]
    simp only [Gp, BA, IP, J, hi, HQ, hu]
    rw [if_pos ⟨h0, by omega⟩, W, Option.bind_some, if_pos ⟨E.Gb xs, X⟩, E.at_ K]
    rfl
   ·cases K
  ·cases G
 ·cases G
theorem XN {v : AB} (G : YQ C.P fr op = some v) : BO C S g h fr op = some (v, h) := by
 unfold YQ at G
 split at G
 ·split at G
  ·rename_i cs J
   rw [E6 (by simp [BA])]
   simp only [Gp, BA, Cq, J, Dd, Ih, G, Option.map_some]
  ·cases G
 ·cases G
theorem Tu {xs ys : List α} {k k' : IntKind} {lo hi : Option Int} (E : Jh e z) (G : UI C.P fr op = some (xs.length, AQ e xs, z, lo.map (.int k ·), hi.map (.int k' ·))) (K : Kd xs lo hi = some ys) : BO C S g h fr op = some (vs e ys, h) := by
 unfold UI at G
 split at G
 ·rename_i t y lo0 hi0
  split at G
  ·rename_i el n cs hu J
   simp only [Option.map_eq_some_iff, Prod.mk.injEq] at G
   obtain ⟨z', W, rfl, rfl, rfl, e1, e2⟩ := G
   unfold Kd at K
   simp only [Option.map_eq_some_iff] at K
   obtain ⟨⟨l, u⟩, M, rfl⟩ := K
   have D : RD xs.length lo hi = some (l, u) := M
   rw [← HU k k'] at M
   have hc : BA C.P (.slice t y lo0 hi0 none) = 1 := by simp only [BA, hu]
   rw [E6 (by rw [hc]; simp)]
   simp only [Gp, hc, Cq, J, Dd, Ih, JM, hu, W, Option.bind_some]
   rw [if_pos (E.Gb xs), e1, e2, M]
   simp only [Option.map_some]
   rw [E.drop, E.take]
   have hle : l ≤ u ∧ u ≤ xs.length := by
    unfold RD at D
    split at D
    ·rename_i u'
     split at D
     ·rename_i hu'
      split at D
      ·rename_i l'
       split at D
       ·rename_i hl'; injection D with D; injection D with a1 a2; omega
       ·cases D
      ·injection D with D; injection D with a1 a2; omega
     ·cases D
    ·split at D
     ·rename_i l'
      split at D
      ·rename_i hl'; injection D with D; injection D with a1 a2; omega
      ·cases D
     ·injection D with D; injection D with a1 a2; omega
   have : (xs.drop l).length = xs.length - l := List.length_drop
   have hlen : ((xs.drop l).take (u - l)).length = u - l := by rw [List.length_take]; omega
   simp only [vs, hlen]
  ·cases G
 ·cases G
theorem I8 : ∀ l : List UInt8, bytesOf (AQ eY l) = some l
 | [] => rfl
 | b :: l => by
  simp only [AQ, List.flatMap_cons, eY, List.singleton_append, bytesOf]
  rw [show bytesOf (List.flatMap eY l) = some l from I8 l]
  simp
theorem YH {xs : List UInt8} (G : WJ C.P fr op = some (xs.length, AQ eY xs)) : BO C S g h fr op = some (.str xs, h) := by
 unfold WJ at G
 split at G
 ·rename_i s0 d0 x0
  split at G
  ·rename_i el n cs hu hd J
   split at G
   ·rename_i he
    simp only [Option.some.injEq, Prod.mk.injEq] at G
    obtain ⟨rfl, rfl⟩ := G
    have hc : BA C.P (.convert s0 d0 x0) = 1 := by simp only [BA, hu, hd]
    rw [E6 (by rw [hc]; simp)]
    simp only [Gp, hc, Cq, J, Dd, Ih, N5, hu, hd, he]
    rw [if_pos (by have := Df.Gb xs; simpa using this), I8]
    rfl
   ·cases G
  ·cases G
 ·cases G
end
section
variable {g : Gd} {h : AF} {L F : List Ck} {α : Type} {e : α → List AB} {z : Nat}
theorem HH.to {h' : AF} (a : HH g h L F) (e : h' = h) : HH g h' L F := e ▸ a
theorem XC (E : Jh e z) (h : AF) (xs : List α) : Cg h z xs.length (vs e xs) = some (AQ e xs) := by
 unfold Cg vs
 simp only
 rw [if_pos ⟨Nat.le_refl _, E.Gb xs⟩, List.take_of_length_le (by rw [E.Gb xs]; exact Nat.le_refl _)]
theorem FF (h : AF) (s : List UInt8) : Cg h 1 s.length (.str s) = some (AQ eY s) := by
 unfold Cg
 simp only [if_true, List.take_length]
 congr 1
 induction s with
 | nil => rfl
 | cons b s ih => simp [AQ, eY]; simpa [AQ, eY] using ih
def Hs (bytes n : Nat) : Bool := decide (n ≤ 1099511627776 ∧ n * bytes ≤ 1099511627776)
theorem HH.FN (E : Jh e z) (X : z ≠ 0) (a : HH g h L F) (k : Nat) {r : Option Nat} {t : TypeId} {xs ys : List α} {new : List AB} {bytes m : Nat} {x : AB} (hk : L[k]? = some (.AQ r t (AQ e xs))) (I : Cg h z m x = some new) (hc : new.map Em = AQ e ys) (hm : m = ys.length) (M : Hs bytes (xs.length + m) = true) :
  ∃ r' h', Av.app t z bytes g h (CF r xs.length) m x = some (CF r' (xs ++ ys).length, h') ∧ HH g h' (L.set k (.AQ r' t (AQ e (xs ++ ys)))) F := by
 subst hm
 obtain ⟨r', h', h1, h2⟩ := a.app k hk (E.Gb xs) X I hc (E.Gb ys) (of_decide_eq_true M) (E.VQ xs) (E.VQ ys)
 refine ⟨r', h', by rw [h1, List.length_append], ?_⟩
 have : AQ e (xs ++ ys) = AQ e xs ++ AQ e ys := by simp [AQ]
 rw [this]; exact h2
theorem HH.Ra (E : Jh e z) (X : z ≠ 0) (a : HH g h L F) (k : Nat) {r : Option Nat} {t : TypeId} {xs : List α} (hk : L[k]? = some (.AQ r t (AQ e xs))) {i : Int} {x : α} (hi : Ii xs i = some x) :
  ∃ id, r = some id ∧ h.get id = some (.cells (some t) 2 (AQ e xs)) ∧ XV (CF r xs.length) z i = some (id, i.toNat * z) ∧ xs[i.toNat]? = some x := by
 unfold Ii at hi
 split at hi
 ·rename_i h0
  have hlt := (List.getElem?_eq_some_iff.1 hi).1
  cases r with
  | none =>
   have hn : AQ e xs = [] := a.mem hk
   exfalso
   have h1 := E.Gb xs
   rw [hn] at h1
   have h2 : xs.length * z = 0 := by simpa using h1.symm
   rcases Nat.mul_eq_zero.1 h2 with h | h
   ·omega
   ·exact X h
  | some id =>
   refine ⟨id, rfl, a.mem hk, ?_, hi⟩
   simp only [CF, Option.map_some, XV]
   rw [Yg, if_pos ⟨h0, by omega⟩]
   simp
 ·cases hi
theorem HH.row (a : HH g h L F) (k : Nat) {r : Option Nat} {t : TypeId} {cs : List AB} (hk : L[k]? = some (.AQ r t cs)) {id : Nat} (er : r = some id) : h.get id = some (.cells (some t) 2 cs) := by
 subst er; exact a.mem hk
theorem IH (E : Jh e z) {id : Nat} {gr : Option TypeId} {xs : List α} (U : h.get id = some (.cells gr 2 (AQ e xs))) {i : Nat} {x : α} (I : xs[i]? = some x) (o n : Nat) (hon : o + n ≤ z) : Ef h (id, i * z + o) n = some (((e x).drop o).take n) := by
 have hi := (List.getElem?_eq_some_iff.1 I).1
 have hle : (i + 1) * z ≤ xs.length * z := Nat.mul_le_mul_right _ (by omega)
 rw [Nat.add_mul, Nat.one_mul] at hle
 unfold Av.Ef CP
 simp only [U]
 rw [if_pos ⟨by simp, by rw [E.Gb xs]; omega⟩, ← E.at_ I, ← List.drop_drop]
 congr 1
 generalize (AQ e xs).drop (i * z) = l
 rw [List.drop_take, List.take_take, Nat.min_eq_left (by omega)]
theorem Lb (E : Jh e z) {id : Nat} {gr : Option TypeId} {xs : List α} (U : h.get id = some (.cells gr 2 (AQ e xs))) {i : Nat} {x : α} (I : xs[i]? = some x) {o : Nat} {v : AB} (J : (e x)[o]? = some v) : ld1 h (id, i * z + o) = some v := by
 have ho := (List.getElem?_eq_some_iff.1 J).1
 have h1 := IH E U I o 1 (by rw [E.len] at ho; omega)
 unfold Av.Ef at h1
 unfold Av.ld1
 rw [h1, List.drop_eq_getElem_cons ho, (List.getElem?_eq_some_iff.1 J).2]
 rfl
theorem RX {A m B new : List AB} {o : Nat} (h : o + new.length ≤ m.length) : Ds (A ++ (m ++ B)) (A.length + o) new = A ++ (Ds m o new ++ B) := by
 unfold Ds
 have e1 : (A ++ (m ++ B)).take (A.length + o) = A ++ m.take o := by
  rw [List.take_length_add_append, List.take_append_of_le_length (by omega)]
 have e2 : (A ++ (m ++ B)).drop (A.length + o + new.length) = m.drop (o + new.length) ++ B := by
  rw [Nat.add_assoc, List.drop_length_add_append, List.drop_append_of_le_length (by omega)]
 rw [e1, e2]
 simp [List.append_assoc]
theorem HH.Yh (E : Jh e z) (a : HH g h L F) (k : Nat) {r : Option Nat} {t : TypeId} {xs : List α} (hk : L[k]? = some (.AQ r t (AQ e xs))) {id : Nat} (er : r = some id) {i : Nat} {x y : α} (I : xs[i]? = some x) {o : Nat} {new : List AB} (G : Ds (e x) o (new.map Em) = e y) (h1 : new.all AB.one = true) (K : o + new.length ≤ z := by decide) :
  ∃ h', Av.st g h (id, i * z + o) new = some h' ∧ HH g h' (L.set k (.AQ r t (AQ e (xs.set i y)))) F := by
 have U := a.row k hk er
 have hi := (List.getElem?_eq_some_iff.1 I).1
 have hid := h.BV U
 have hle : (i + 1) * z ≤ xs.length * z := Nat.mul_le_mul_right _ (by omega)
 rw [Nat.add_mul, Nat.one_mul] at hle
 have hm : g.may id = true := a.Jf hk (by rw [er]; simp [Ck.ids])
 refine ⟨h.set id (.cells (some t) 2 (AQ e (xs.set i y))), ?_, ?_⟩
 ·unfold Av.st Ci
  simp only [U]
  rw [if_pos ⟨hm, by rw [E.Gb xs]; omega, h1⟩]
  congr 2
  have hsplit : AQ e xs = AQ e (xs.take i) ++ (e x ++ AQ e (xs.drop (i + 1))) := by
   conv => lhs; rw [← List.take_append_drop i xs, List.drop_eq_getElem_cons hi, (List.getElem?_eq_some_iff.1 I).2]
   simp [AQ]
  have hlen : (AQ e (xs.take i)).length = i * z := by rw [E.Gb, List.length_take, Nat.min_eq_left (by omega)]
  have hset : AQ e (xs.set i y) = AQ e (xs.take i) ++ (e y ++ AQ e (xs.drop (i + 1))) := by
   rw [List.set_eq_take_append_cons_drop, if_pos hi]
   simp [AQ]
  show CJ.cells (some t) 2 (Ds _ _ (new.map Em)) = _
  rw [hsplit, hset, ← hlen, RX (by rw [E.len, List.length_map]; exact K), G]
 ·subst er
  refine a.Mz hk (by simp) (fun j _ hj => h.Bc _ hid (by simpa [Ck.ids] using hj)) (h.get_set_same _ hid) (fun j hj => .inl hj) (fun j hj => a.Jf hk hj)
theorem LK {h1 : AF} {a : Nat × Nat} {cs : List AB} {n : Nat} (G : st g h a cs = some h1) (K : cs.length = n) : YZ n g h a cs = some h1 := by unfold YZ; rw [if_pos K]; exact G
theorem UN (s : List UInt8) : (s.map fun b => AB.int .u8 b.toNat) = AQ eY s := by
 induction s with
 | nil => rfl
 | cons b s ih => simp [AQ, eY] at *; exact ih
def XX (c : Int) : Option UInt8 := if 0 ≤ c ∧ c ≤ 255 then some (UInt8.ofNat c.toNat) else none
theorem U2 {c : Int} {y : UInt8} (h : XX c = some y) : c = (y.toNat : Int) := by
 unfold XX at h
 split at h
 ·rename_i hc
  injection h with h
  subst h
  have : (UInt8.ofNat c.toNat).toNat = c.toNat % 256 := UInt8.toNat_ofNat'
  rw [this]; omega
 ·cases h
theorem Kt {C : E8} {S : Self} {fr : Fr} {op : Op} {xs : List UInt8} (a : HH g h L F) (k : Nat) {r : Option Nat} {t : TypeId} (hk : L[k]? = some (.AQ r t (AQ eY xs))) (G : Q3 C.P fr op = some ((CF r xs.length).r, xs.length)) : BO C S g h fr op = some (.str xs, h) := by
 refine Tv (s := CF r xs.length) G ?_
 have Z := a.mem hk
 unfold Yb CF
 cases r with
 | none =>
  have : AQ eY xs = [] := Z
  have h1 := Df.Gb xs
  rw [this] at h1
  have : xs = [] := List.eq_nil_of_length_eq_zero (by simpa using h1.symm)
  subst this
  rfl
 | some id =>
  have U : h.get id = some (.cells (some t) 2 (AQ eY xs)) := Z
  simp only [Option.map_some]
  by_cases h0 : xs.length = 0
  ·have : xs = [] := List.eq_nil_of_length_eq_zero h0
   subst this
   rw [if_pos h0, U]
   rfl
  ·rw [if_neg h0]
   unfold CP
   simp only [U]
   have h1 := Df.Gb xs
   rw [if_pos ⟨by simp, by rw [h1]; omega⟩, List.drop_zero, List.take_of_length_le (by rw [h1]; omega)]
   exact I8 xs
theorem X2 {C : E8} {S : Self} {fr : Fr} {op : Op} (G : Q3 C.P fr op = some (none, 0)) : BO C S g h fr op = some (.str [], h) := Tv (s := ⟨none, 0⟩) G rfl
def TH (bytes : Nat) (n : Int) : Bool := decide (0 ≤ n ∧ n ≤ 1099511627776 ∧ bytes * n ≤ 1099511627776)
theorem J4 {x : α} : ∀ n, Ec (e x) n = AQ e (List.replicate n x)
 | 0 => rfl
 | n + 1 => by rw [List.replicate_succ, AQ, List.flatMap_cons, Ec, J4 n]
theorem SM {C : E8} {S : Self} {fr : Fr} {op : Op} {h1 : AF} {t : TypeId} {bytes : Nat} {n : Int} {x : α} (E : Jh e z) (G : TX C.P fr op = some (t, bytes, e x, n, n)) (M : TH bytes n = true) (T : some (h.push (.cells (some t) 2 (AQ e (List.replicate n.toNat x)))) = some h1) :
  BO C S g h fr op = some (AP (some h.size) (List.replicate n.toNat x).length, h1) := by
 have M := of_decide_eq_true M
 have := WB (S := S) (g := g) G (cs := AQ e (List.replicate n.toNat x)) (by unfold Xd; rw [if_pos ⟨M.1, Int.le_refl _, M.2.1, M.2.2⟩, J4]) T
 rw [this, List.length_replicate]
 rfl
end
section
variable {g : Gd} {h h' : AF} {L F : List Ck}
theorem HH.Nz (a : HH g h L F) (n : Nat) : HH g h (L.take n) F := by
 have G : (C6 (L.take n ++ F)).Sublist (C6 (L ++ F)) := by
  rw [Cn, Cn]
  refine List.Sublist.append ?_ (List.Sublist.refl _)
  conv => rhs; rw [← List.take_append_drop n L, Cn]
  exact List.sublist_append_left _ _
 exact ⟨fun c hc => a.ok c (by rcases List.mem_append.1 hc with h | h; exact List.mem_append.2 (.inl (List.mem_of_mem_take h)); exact List.mem_append.2 (.inr h)), a.nd.sublist G,
  fun i hi => a.may i (by rw [← List.take_append_drop n L, Cn]; exact List.mem_append.2 (.inl hi)), a.CD, a.floor⟩
inductive S1 (R : List Ck) : List Nat → Prop where
 | nil : S1 R []
 | cons {p : Nat} {ps : List Nat} {c : Ck} (k : Nat) : R[k]? = some c → p ∈ c.ids → S1 R ps → S1 R (p :: ps)
theorem S1.mem {R : List Ck} {ps : List Nat} (h : S1 R ps) : ∀ p ∈ ps, p ∈ C6 R := by
 induction h with
 | nil => intro p V; cases V
 | cons k hk hm _ ih =>
  intro p V
  rcases List.mem_cons.1 V with rfl | V
  ·simp only [C6, List.mem_flatMap]; exact ⟨_, List.mem_of_getElem? hk, hm⟩
  ·exact ih p V
theorem HH.Hw (a : HH g h L F) (n : Nat) {pr : List Nat} (V : S1 (L.drop n) pr) : HH ⟨g.floor, pr ++ g.CD⟩ h (L.take n) (L.drop n ++ F) := by
 refine (a.cut n).YB (fun i hi hn => ?_) (fun i hi => ?_)
 ·have h1 := V.mem i hn
  have h2 := a.nd
  rw [← List.take_append_drop n L, Cn, Cn, List.append_assoc, List.nodup_append] at h2
  exact h2.2.2 i hi i (List.mem_append.2 (.inl h1)) rfl
 ·refine a.lt (i := i) ?_
  rw [← List.take_append_drop n L, Cn, Cn]
  exact List.mem_append.2 (.inl (List.mem_append.2 (.inr (V.mem i hi))))
theorem HH.Ot {pr : List Nat} {n : Nat} {L' : List Ck} (a : HH g h L F) (b : HH ⟨g.floor, pr ++ g.CD⟩ h' L' (L.drop n ++ F)) : HH g h' (L' ++ L.drop n) F :=
 a.glue b (fun i hm => by
  simp only [Gd.may, Bool.and_eq_true, Bool.not_eq_true', List.any_append, Bool.or_eq_false_iff] at hm ⊢
  exact ⟨hm.1, hm.2.2⟩) (fun i hi => List.mem_append.2 (.inr hi)) rfl
end
section
variable {C : E8} {g : Gd} {h : AF} {f : FuncId}
theorem N1 {args : List AB} {n : Nat} {rs : List ResultVar} {R : AB → AF → Prop} (O : Ez C.P f = some (n, rs))
  (T : AW C f g (DS C.P f) (args ++ List.replicate (n - args.length) (.tuple [])) h (fun e fr h' => (e = .ret ∨ e = .normal) ∧ ∃ v, Jd C.P rs fr h' = some v ∧ R v h')) : ∃ v h', OD C g h f args v h' ∧ R v h' := by
 obtain ⟨m, e, fr', h2, I, ⟨hq, v, J, Y⟩⟩ := T.ex
 exact ⟨v, h2, VL O ⟨⟨m, e, fr', h2, I, ⟨hq, J, rfl⟩⟩⟩, Y⟩
theorem Wq {args args' : List AB} {n : Nat} {rs : List ResultVar} {R : AB → AF → Prop} (hk : C.kind f = 1) (hc : BP (C.still f) args = args') (O : Ez C.P f = some (n, rs))
  (T : AW C f g (DS C.P f) (args' ++ List.replicate (n - args'.length) (.tuple [])) h (fun e fr h' => (e = .ret ∨ e = .normal) ∧ ∃ v, Jd C.P rs fr h' = some v ∧ R v h')) : ∃ v h', BZ C g h f args v h' ∧ R v h' := by
 obtain ⟨v, h', M, Y⟩ := N1 O T
 exact ⟨v, h', XZ hk hc M, Y⟩
theorem W6 {args args' : List AB} {n : Nat} {rs : List ResultVar} {R : AB → AF → Prop} (hk : C.kind f = 7) (hc : BP (C.still f) args = args') (O : Ez C.P f = some (n, rs))
  (T : AW C f g (DS C.P f) (args' ++ List.replicate (n - args'.length) (.tuple [])) h (fun e fr h' => (e = .ret ∨ e = .normal) ∧ ∃ v, Jd C.P rs fr h' = some v ∧ ∃ v' h'', M1 g h' v = some (v', h'') ∧ R v' h'')) : ∃ v h', BZ C g h f args v h' ∧ R v h' := by
 obtain ⟨v, h', M, v', h'', X, Y⟩ := N1 O T
 exact ⟨v', h'', YO hk hc M X, Y⟩
theorem W9 {args args' : List AB} {n : Nat} {rs : List ResultVar} {R : AB → AF → Prop} (hk : C.kind f = 8) (hc : BP (C.still f) args = args') (O : Ez C.P f = some (n, rs))
  (T : OJ C f g (DS C.P f) (args' ++ List.replicate (n - args'.length) (.tuple [])) h (fun e fr h' => (e = .ret ∨ e = .normal) ∧ ∃ v, Jd C.P rs fr h' = some v ∧ R v h')) : ∃ v h', BZ C g h f args v h' ∧ R v h' := by
 obtain ⟨m, e, fr', h2, I, hq, v, J, Y⟩ := T.ex
 refine ⟨v, h2, ⟨m + 1, ?_⟩, Y⟩
 show GF C (Co C m) g h f args = _
 unfold GF
 rw [hk]
 simp only [hc]
 unfold Ez at O
 unfold DS at I
 unfold OB
 split at O
 ·rename_i fn hfn
  split at O
  ·rename_i c hcc
   simp only [Option.some.injEq, Prod.mk.injEq] at O
   obtain ⟨rfl, rfl⟩ := O
   simp only [hfn, hcc] at I ⊢
   rcases hq with rfl | rfl
   ·rw [I]; simp only; rw [show Cw C.P fn fr' h2 = some v from J]; rfl
   ·rw [I]; simp only; rw [show Cw C.P fn fr' h2 = some v from J]; rfl
  ·cases O
 ·cases O
theorem Wt {c : Code} {Q : B2 → Fr → AF → Prop} {args : List AB} {n : Nat} (ins : List (Nat × AB)) (K : (args ++ List.replicate (n - args.length) (AB.tuple [])).length = n) (hi : ins.map (fun p => nth (args ++ List.replicate (n - args.length) (AB.tuple [])) p.1) = ins.map (·.2))
  (T : ∀ fr, Has fr n ins → OJ C f g c fr h Q) : OJ C f g c (args ++ List.replicate (n - args.length) (.tuple [])) h Q := T _ (Has.of_map K hi)
theorem ZT {P : Program} {fr : Fr} {N : Nat} {l : List (Nat × AB)} {rs : List ResultVar} {v : AB} (H : Has fr N l) (hr : ∀ fr, Jd P rs (Cm N l fr) h = some v) : Jd P rs fr h = some v := by
 have := hr fr
 rwa [Dv H] at this
theorem Y9 {fr : Fr} {N : Nat} {l : List (Nat × AB)} {t : Nat} {v : AB} (H : Has fr N l) (hr : ∀ fr, nth (Cm N l fr) t = v) : nth fr t = v := by
 have := hr fr
 rwa [Dv H] at this
end
section
variable {g : Gd} {h : AF}
theorem Ym (vs : List AB) : M1 g h (.tuple vs) = (K9 (Kf g) vs h).map fun r => (.tuple r.1, r.2) := rfl
theorem ZQ (cs : List AB) : M1 g h (.agg cs) = (K9 (HT g) cs h).map fun r => (.agg r.1, r.2) := rfl
theorem Y3 (r : Option Nat) (n : Nat) : M1 g h (AP r n) = HT g h (AP r n) := rfl
theorem ZP (n : Nat) (cs : List AB) : M1 g h (.Gt n cs) = some (.Gt n cs, h) := rfl
theorem Y4 (cs : List AB) : Kf g h (.agg cs) = (K9 (HT g) cs h).map fun r => (.agg r.1, r.2) := rfl
theorem X8 (r : Option Nat) (n : Nat) : Kf g h (AP r n) = HT g h (AP r n) := rfl
theorem YE (n : Nat) (cs : List AB) : Kf g h (.Gt n cs) = some (.Gt n cs, h) := rfl
theorem YG (k : IntKind) (n : Int) : Kf g h (.int k n) = some (.int k n, h) := rfl
theorem YC (b : Bool) : Kf g h (.bool b) = some (.bool b, h) := rfl
theorem YU (s : List UInt8) : Kf g h (.str s) = some (.str s, h) := rfl
theorem Xj : Kf g h (.slice none 0) = some (.Gt 0 [], h) := rfl
theorem Xc (f : AF → AB → Option (AB × AF)) : K9 f [] h = some ([], h) := rfl
theorem YW (f : AF → AB → Option (AB × AF)) (v : AB) (vs : List AB) : K9 f (v :: vs) h = (match f h v with | some (v', h1) => (K9 f vs h1).map fun r => (v' :: r.1, r.2) | none => none) := rfl
theorem Yu (k : IntKind) (n : Int) : HT g h (.int k n) = some (.int k n, h) := rfl
theorem ZH (b : Bool) : HT g h (.bool b) = some (.bool b, h) := rfl
theorem Y2 (s : List UInt8) : HT g h (.str s) = some (.str s, h) := rfl
theorem ZM (n : Nat) (cs : List AB) : HT g h (.Gt n cs) = some (.Gt n cs, h) := rfl
theorem ZR : HT g h (.slice none 0) = some (.Gt 0 [], h) := rfl
end
def WM : List (Nat × List Bool) → Nat → List Bool
 | [], _ => []
 | (a, b) :: l, f => bif Nat.beq a f then b else WM l f
end Go.Av
