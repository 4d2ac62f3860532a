/-
  ABS, 24: plain Lean values as rows that nobody writes, and as rows of one's own; the steps on them.
-/
import Derived.Test.YthnnciphldbmeaaGreatDoorAvHH
namespace Go.Av
set_option linter.unusedVariables false
structure Lg {α : Type} (e : α → List AD) (z : Nat) : Prop where
 len : ∀ x, (e x).length = z
 one : ∀ x, (e x).all AD.one = true
 can : ∀ x, (e x).map Gl = e x
abbrev AL {α : Type} (e : α → List AD) (xs : List α) : List AD := xs.flatMap e
abbrev vs {α : Type} (e : α → List AD) (xs : List α) : AD := .HN xs.length (AL e xs)
def eI (k : IntKind) (x : Int) : List AD := [.int k x]
def eB (x : Bool) : List AD := [.bool x]
def eS (x : List UInt8) : List AD := [.str x]
def eY (x : UInt8) : List AD := [.int .u8 x.toNat]
def eL {α : Type} (e : α → List AD) (xs : List α) : List AD := [vs e xs]
theorem encI (k : IntKind) : Lg (eI k) 1 := ⟨fun _ => rfl, fun _ => rfl, fun _ => rfl⟩
theorem WZ : Lg eB 1 := ⟨fun _ => rfl, fun _ => rfl, fun _ => rfl⟩
theorem encS : Lg eS 1 := ⟨fun _ => rfl, fun _ => rfl, fun _ => rfl⟩
theorem HQ : Lg eY 1 := ⟨fun _ => rfl, fun _ => rfl, fun _ => rfl⟩
section
variable {α : Type} {e : α → List AD} {z : Nat}
theorem Lg.KT (E : Lg e z) : ∀ xs : List α, (AL e xs).length = xs.length * z
 | [] => by simp
 | x :: xs => by simp only [AL, List.flatMap_cons, List.length_append, E.len, List.length_cons]; rw [show (List.flatMap e xs).length = xs.length * z from E.KT xs, Nat.add_mul]; omega
theorem Lg.Wl (E : Lg e z) (xs : List α) : (AL e xs).all AD.one = true := by
 rw [List.all_eq_true]
 intro v hv
 obtain ⟨x, _, hx⟩ := List.mem_flatMap.1 hv
 exact List.all_eq_true.1 (E.one x) v hx
theorem Lg.BH (E : Lg e z) : ∀ xs : List α, (AL e xs).map Gl = AL e xs
 | [] => rfl
 | x :: xs => by simp only [AL, List.flatMap_cons, List.map_append, E.can]; rw [show (List.flatMap e xs).map Gl = _ from E.BH xs]
theorem Lg.take (E : Lg e z) : ∀ (xs : List α) (n : Nat), (AL e xs).take (n * z) = AL e (xs.take n)
 | [], n => by simp
 | x :: xs, 0 => by simp
 | x :: xs, n + 1 => by
  simp only [AL, List.flatMap_cons, List.take_succ_cons]
  rw [Nat.add_mul, Nat.one_mul, Nat.add_comm, ← E.len x, List.take_length_add_append, E.len x]
  congr 1
  exact E.take xs n
theorem Lg.drop (E : Lg e z) : ∀ (xs : List α) (n : Nat), (AL e xs).drop (n * z) = AL e (xs.drop n)
 | [], n => by simp
 | x :: xs, 0 => by simp
 | x :: xs, n + 1 => by
  simp only [AL, List.flatMap_cons, List.drop_succ_cons]
  rw [Nat.add_mul, Nat.one_mul, Nat.add_comm, ← E.len x, List.drop_length_add_append, E.len x]
  exact E.drop xs n
theorem Lg.at_ (E : Lg e z) {xs : List α} {i : Nat} {x : α} (h : xs[i]? = some x) : ((AL e xs).drop (i * z)).take z = e x := by
 obtain ⟨hi, hx⟩ := List.getElem?_eq_some_iff.1 h
 rw [E.drop, List.drop_eq_getElem_cons hi, hx]
 simp only [AL, List.flatMap_cons]
 rw [← E.len x, List.take_left]
end
def GP {α : Type} (xs : List α) (i : Int) : Option α := if 0 ≤ i then xs[i.toNat]? else none
def Rn {α : Type} (xs : List α) (lo hi : Option Int) : Option (List α) := (Tx xs.length lo hi).map fun p => (xs.drop p.1).take (p.2 - p.1)
section
variable (P : Program) (fr : Fr)
def WN : Op → Option (Nat × List AD × Nat × Int)
 | .indexAddr t x i =>
  match P.underlying t, ev fr x, ev fr i with
  | some (.slice e), .HN n cs, .int _ i => (C5 P e).map fun z => (n, cs, z, i)
  | _, _, _ => none
 | _ => none
def Xt : Op → Option AD
 | .load t a =>
  match ev fr a with
  | .BC cs => Gp P (some (.cells none 1 cs)) t 0
  | _ => none
 | _ => none
def UD : Op → Option (Nat × List AD × Nat × Option AD × Option AD)
 | .slice t x lo hi none =>
  match P.underlying t, ev fr x with
  | some (.slice e), .HN n cs => (C5 P e).map fun z => (n, cs, z, lo.map (ev fr), hi.map (ev fr))
  | _, _ => none
 | _ => none
def RG : Op → Option (Nat × List AD)
 | .call { callee := .value x, args := as, .. } =>
  match ev fr x with
  | .KJ l => some (l, as.toList.map (ev fr))
  | _ => none
 | _ => none
end
section
variable {C : Hj} {S : Self} {g : Gd} {h h1 : AM} {fr : Fr} {op : Op} {α : Type} {e : α → List AD} {z : Nat}
theorem Ht {xs : List α} {i : Int} {x : α} (E : Lg e z) (hz : z ≠ 0) (hs : WN C.P fr op = some (xs.length, AL e xs, z, i)) (hl : GP xs i = some x) : Bl C S g h fr op = some (.BC (e x), h) := by
 unfold WN at hs
 split at hs
 ·rename_i t y j
  split at hs
  ·rename_i el n cs k i' hu hv hi
   simp only [Option.map_eq_some_iff, Prod.mk.injEq] at hs
   obtain ⟨z', hz', rfl, rfl, rfl, rfl⟩ := hs
   unfold GP at hl
   split at hl
   ·rename_i h0
    have hlt := (List.getElem?_eq_some_iff.1 hl).1
    rw [Fo (by simp [BI])]
    simp only [Il, BI, I4, hv, hi, Gk, hu]
    rw [if_pos ⟨h0, by omega⟩, hz', Option.bind_some, if_pos ⟨E.KT xs, hz⟩, E.at_ hl]
    rfl
   ·cases hl
  ·cases hs
 ·cases hs
theorem IQ {v : AD} (hs : Xt C.P fr op = some v) : Bl C S g h fr op = some (v, h) := by
 unfold Xt at hs
 split at hs
 ·split at hs
  ·rename_i cs hv
   rw [Fo (by simp [BI])]
   simp only [Il, BI, Dj, hv, FB, Kk, hs, Option.map_some]
  ·cases hs
 ·cases hs
theorem UI {xs ys : List α} {k k' : IntKind} {lo hi : Option Int} (E : Lg e z) (hs : UD C.P fr op = some (xs.length, AL e xs, z, lo.map (.int k ·), hi.map (.int k' ·))) (hl : Rn xs lo hi = some ys) : Bl C S g h fr op = some (vs e ys, h) := by
 unfold UD at hs
 split at hs
 ·rename_i t y lo0 hi0
  split at hs
  ·rename_i el n cs hu hv
   simp only [Option.map_eq_some_iff, Prod.mk.injEq] at hs
   obtain ⟨z', hz', rfl, rfl, rfl, e1, e2⟩ := hs
   unfold Rn at hl
   simp only [Option.map_eq_some_iff] at hl
   obtain ⟨⟨l, u⟩, hb, rfl⟩ := hl
   have hb' : Tx xs.length lo hi = some (l, u) := hb
   rw [← ON k k'] at hb
   have hc : BI C.P (.slice t y lo0 hi0 none) = 1 := by simp only [BI, hu]
   rw [Fo (by rw [hc]; simp)]
   simp only [Il, hc, Dj, hv, FB, Kk, Qq, hu, hz', Option.bind_some]
   rw [if_pos (E.KT xs), e1, e2, hb]
   simp only [Option.map_some]
   rw [E.drop, E.take]
   have hle : l ≤ u ∧ u ≤ xs.length := by
    unfold Tx at hb'
    split at hb'
    ·rename_i u'
     split at hb'
     ·rename_i hu'
      split at hb'
      ·rename_i l'
       split at hb'
       ·rename_i hl'; injection hb' with hb'; injection hb' with a1 a2; omega
       ·cases hb'
      ·injection hb' with hb'; injection hb' with a1 a2; omega
     ·cases hb'
    ·split at hb'
     ·rename_i l'
      split at hb'
      ·rename_i hl'; injection hb' with hb'; injection hb' with a1 a2; omega
      ·cases hb'
     ·injection hb' with hb'; injection hb' with a1 a2; omega
   have : (xs.drop l).length = xs.length - l := List.length_drop
   have hlen : ((xs.drop l).take (u - l)).length = u - l := by rw [List.length_take]; omega
   simp only [vs, hlen]
  ·cases hs
 ·cases hs
theorem Oj : ∀ l : List UInt8, bytesOf (AL eY l) = some l
 | [] => rfl
 | b :: l => by
  simp only [AL, List.flatMap_cons, eY, List.singleton_append, bytesOf]
  rw [show bytesOf (List.flatMap eY l) = some l from Oj l]
  simp
end
section
variable {g : Gd} {h : AM} {L F : List Ck} {α : Type} {e : α → List AD} {z : Nat}
theorem HH.to {h' : AM} (a : HH g h L F) (e : h' = h) : HH g h' L F := e ▸ a
theorem Kx (E : Lg e z) (h : AM) (xs : List α) : D6 h z xs.length (vs e xs) = some (AL e xs) := by
 unfold D6 vs
 simp only
 rw [if_pos ⟨Nat.le_refl _, E.KT xs⟩, List.take_of_length_le (by rw [E.KT xs]; exact Nat.le_refl _)]
def Np (bytes n : Nat) : Bool := decide (n ≤ 1099511627776 ∧ n * bytes ≤ 1099511627776)
theorem HH.Lo (E : Lg e z) (hz : z ≠ 0) (a : HH g h L F) (k : Nat) {r : Option Nat} {t : TypeId} {xs ys : List α} {new : List AD} {bytes m : Nat} {x : AD} (hk : L[k]? = some (.AL r t (AL e xs))) (hx : D6 h z m x = some new) (hc : new.map Gl = AL e ys) (hm : m = ys.length) (hb : Np bytes (xs.length + m) = true) :
  ∃ r' h', Av.app t z bytes g h (DP r xs.length) m x = some (DP r' (xs ++ ys).length, h') ∧ HH g h' (L.set k (.AL r' t (AL e (xs ++ ys)))) F := by
 subst hm
 obtain ⟨r', h', h1, h2⟩ := a.app k hk (E.KT xs) hz hx hc (E.KT ys) (of_decide_eq_true hb) (E.Wl xs) (E.Wl ys)
 refine ⟨r', h', by rw [h1, List.length_append], ?_⟩
 have : AL e (xs ++ ys) = AL e xs ++ AL e ys := by simp [AL]
 rw [this]; exact h2
theorem HH.Ll (E : Lg e z) (hz : z ≠ 0) (a : HH g h L F) (k : Nat) {r : Option Nat} {t : TypeId} {xs : List α} (hk : L[k]? = some (.AL r t (AL e xs))) {i : Int} {x : α} (hi : GP xs i = some x) :
  ∃ id, r = some id ∧ h.get id = some (.cells (some t) 2 (AL e xs)) ∧ X3 (DP r xs.length) z i = some (id, i.toNat * z) ∧ xs[i.toNat]? = some x := by
 unfold GP at hi
 split at hi
 ·rename_i h0
  have hlt := (List.getElem?_eq_some_iff.1 hi).1
  cases r with
  | none =>
   have hn : AL e xs = [] := a.mem hk
   exfalso
   have h1 := E.KT xs
   rw [hn] at h1
   have h2 : xs.length * z = 0 := by simpa using h1.symm
   rcases Nat.mul_eq_zero.1 h2 with h | h
   ·omega
   ·exact hz h
  | some id =>
   refine ⟨id, rfl, a.mem hk, ?_, hi⟩
   simp only [DP, Option.map_some, X3]
   rw [Va, if_pos ⟨h0, by omega⟩]
   simp
 ·cases hi
theorem HH.row (a : HH g h L F) (k : Nat) {r : Option Nat} {t : TypeId} {cs : List AD} (hk : L[k]? = some (.AL r t cs)) {id : Nat} (er : r = some id) : h.get id = some (.cells (some t) 2 cs) := by
 subst er; exact a.mem hk
theorem IS (E : Lg e z) {id : Nat} {gr : Option TypeId} {xs : List α} (hg : h.get id = some (.cells gr 2 (AL e xs))) {i : Nat} {x : α} (hx : xs[i]? = some x) (o n : Nat) (hon : o + n ≤ z) : GQ h (id, i * z + o) n = some (((e x).drop o).take n) := by
 have hi := (List.getElem?_eq_some_iff.1 hx).1
 have hle : (i + 1) * z ≤ xs.length * z := Nat.mul_le_mul_right _ (by omega)
 rw [Nat.add_mul, Nat.one_mul] at hle
 unfold Av.GQ C8
 simp only [hg]
 rw [if_pos ⟨by simp, by rw [E.KT xs]; omega⟩, ← E.at_ hx, ← List.drop_drop]
 congr 1
 generalize (AL e xs).drop (i * z) = l
 rw [List.drop_take, List.take_take, Nat.min_eq_left (by omega)]
theorem EP (E : Lg e z) {id : Nat} {gr : Option TypeId} {xs : List α} (hg : h.get id = some (.cells gr 2 (AL e xs))) {i : Nat} {x : α} (hx : xs[i]? = some x) {o : Nat} {v : AD} (hv : (e x)[o]? = some v) : N6 h (id, i * z + o) = some v := by
 have ho := (List.getElem?_eq_some_iff.1 hv).1
 have h1 := IS E hg hx o 1 (by rw [E.len] at ho; omega)
 unfold Av.GQ at h1
 unfold Av.N6
 rw [h1, List.drop_eq_getElem_cons ho, (List.getElem?_eq_some_iff.1 hv).2]
 rfl
theorem SW {A m B new : List AD} {o : Nat} (h : o + new.length ≤ m.length) : Du (A ++ (m ++ B)) (A.length + o) new = A ++ (Du m o new ++ B) := by
 unfold Du
 have e1 : (A ++ (m ++ B)).take (A.length + o) = A ++ m.take o := by
  rw [List.take_length_add_append, List.take_append_of_le_length (by omega)]
 have e2 : (A ++ (m ++ B)).drop (A.length + o + new.length) = m.drop (o + new.length) ++ B := by
  rw [Nat.add_assoc, List.drop_length_add_append, List.drop_append_of_le_length (by omega)]
 rw [e1, e2]
 simp [List.append_assoc]
theorem HH.XG (E : Lg e z) (a : HH g h L F) (k : Nat) {r : Option Nat} {t : TypeId} {xs : List α} (hk : L[k]? = some (.AL r t (AL e xs))) {id : Nat} (er : r = some id) {i : Nat} {x y : α} (hx : xs[i]? = some x) {o : Nat} {new : List AD} (hs : Du (e x) o new = e y) (h1 : new.all AD.one = true) (hl : o + new.length ≤ z := by decide) :
  ∃ h', Av.st g h (id, i * z + o) new = some h' ∧ HH g h' (L.set k (.AL r t (AL e (xs.set i y)))) F := by
 have hg := a.row k hk er
 have hi := (List.getElem?_eq_some_iff.1 hx).1
 have hid := h.Cd hg
 have hle : (i + 1) * z ≤ xs.length * z := Nat.mul_le_mul_right _ (by omega)
 rw [Nat.add_mul, Nat.one_mul] at hle
 have hm : g.may id = true := a.Q6 hk (by rw [er]; simp [Ck.ids])
 refine ⟨h.set id (.cells (some t) 2 (AL e (xs.set i y))), ?_, ?_⟩
 ·unfold Av.st Db
  simp only [hg]
  rw [if_pos ⟨hm, by rw [E.KT xs]; omega, h1⟩]
  congr 2
  have hsplit : AL e xs = AL e (xs.take i) ++ (e x ++ AL e (xs.drop (i + 1))) := by
   conv => lhs; rw [← List.take_append_drop i xs, List.drop_eq_getElem_cons hi, (List.getElem?_eq_some_iff.1 hx).2]
   simp [AL]
  have hlen : (AL e (xs.take i)).length = i * z := by rw [E.KT, List.length_take, Nat.min_eq_left (by omega)]
  have XL : AL e (xs.set i y) = AL e (xs.take i) ++ (e y ++ AL e (xs.drop (i + 1))) := by
   rw [List.set_eq_take_append_cons_drop, if_pos hi]
   simp [AL]
  rw [hsplit, XL, ← hlen, SW (by rw [E.len]; exact hl), hs]
 ·subst er
  refine a.Tz hk (by simp) (fun j _ hj => h.Dh _ hid (by simpa [Ck.ids] using hj)) (h.EK _ hid) (fun j hj => .inl hj) (fun j hj => a.Q6 hk hj)
theorem Ql {h1 : AM} {a : Nat × Nat} {cs : List AD} {n : Nat} (hs : st g h a cs = some h1) (hl : cs.length = n) : X4 n g h a cs = some h1 := by unfold X4; rw [if_pos hl]; exact hs
def Wx (c : Int) : Option UInt8 := if 0 ≤ c ∧ c ≤ 255 then some (UInt8.ofNat c.toNat) else none
theorem Oz {c : Int} {y : UInt8} (h : Wx c = some y) : c = (y.toNat : Int) := by
 unfold Wx at h
 split at h
 ·rename_i hc
  injection h with h
  subst h
  have : (UInt8.ofNat c.toNat).toNat = c.toNat % 256 := UInt8.toNat_ofNat'
  rw [this]; omega
 ·cases h
theorem TR {C : Hj} {S : Self} {fr : Fr} {op : Op} {xs : List UInt8} (a : HH g h L F) (k : Nat) {r : Option Nat} {t : TypeId} (hk : L[k]? = some (.AL r t (AL eY xs))) (hs : U9 C.P fr op = some ((DP r xs.length).r, xs.length)) : Bl C S g h fr op = some (.str xs, h) := by
 refine Xp (s := DP r xs.length) hs ?_
 have hok := a.mem hk
 unfold YN DP
 cases r with
 | none =>
  have : AL eY xs = [] := hok
  have h1 := HQ.KT xs
  rw [this] at h1
  have : xs = [] := List.eq_nil_of_length_eq_zero (by simpa using h1.symm)
  subst this
  rfl
 | some id =>
  have hg : h.get id = some (.cells (some t) 2 (AL eY xs)) := hok
  simp only [Option.map_some]
  by_cases h0 : xs.length = 0
  ·have : xs = [] := List.eq_nil_of_length_eq_zero h0
   subst this
   rw [if_pos h0, hg]
   rfl
  ·rw [if_neg h0]
   unfold C8
   simp only [hg]
   have h1 := HQ.KT xs
   rw [if_pos ⟨by simp, by rw [h1]; omega⟩, List.drop_zero, List.take_of_length_le (by rw [h1]; omega)]
   exact Oj xs
def X6 (bytes : Nat) (n : Int) : Bool := decide (0 ≤ n ∧ n ≤ 1099511627776 ∧ bytes * n ≤ 1099511627776)
theorem Nn {x : α} : ∀ n, Fi (e x) n = AL e (List.replicate n x)
 | 0 => rfl
 | n + 1 => by rw [List.replicate_succ, AL, List.flatMap_cons, Fi, Nn n]
theorem VJ {C : Hj} {S : Self} {fr : Fr} {op : Op} {h1 : AM} {t : TypeId} {bytes : Nat} {n : Int} {x : α} (E : Lg e z) (hs : VX C.P fr op = some (t, bytes, e x, n, n)) (hb : X6 bytes n = true) (hh : some (h.push (.cells (some t) 2 (AL e (List.replicate n.toNat x)))) = some h1) :
  Bl C S g h fr op = some (AF (some h.size) (List.replicate n.toNat x).length, h1) := by
 have hb := of_decide_eq_true hb
 have := XQ (S := S) (g := g) hs (cs := AL e (List.replicate n.toNat x)) (by unfold X1; rw [if_pos ⟨hb.1, Int.le_refl _, hb.2.1, hb.2.2⟩, Nn]) hh
 rw [this, List.length_replicate]
 rfl
end
section
variable {g : Gd} {h h' : AM} {L F : List Ck}
theorem HH.H2 (a : HH g h L F) (n : Nat) : HH g h (L.take n) F := by
 have hs : (CM (L.take n ++ F)).Sublist (CM (L ++ F)) := by
  rw [CP, CP]
  refine List.Sublist.append ?_ (List.Sublist.refl _)
  conv => rhs; rw [← List.take_append_drop n L, CP]
  exact List.sublist_append_left _ _
 exact ⟨fun c hc => a.ok c (by rcases List.mem_append.1 hc with h | h; exact List.mem_append.2 (.inl (List.mem_of_mem_take h)); exact List.mem_append.2 (.inr h)), a.nd.sublist hs,
  fun i hi => a.may i (by rw [← List.take_append_drop n L, CP]; exact List.mem_append.2 (.inl hi)), a.Bm, a.floor⟩
inductive SN (R : List Ck) : List Nat → Prop where
 | nil : SN R []
 | cons {p : Nat} {ps : List Nat} {c : Ck} (k : Nat) : R[k]? = some c → p ∈ c.ids → SN R ps → SN R (p :: ps)
theorem SN.mem {R : List Ck} {ps : List Nat} (h : SN R ps) : ∀ p ∈ ps, p ∈ CM R := by
 induction h with
 | nil => intro p hp; cases hp
 | cons k hk hm _ ih =>
  intro p hp
  rcases List.mem_cons.1 hp with rfl | hp
  ·simp only [CM, List.mem_flatMap]; exact ⟨_, List.mem_of_getElem? hk, hm⟩
  ·exact ih p hp
theorem HH.G4 (a : HH g h L F) (n : Nat) {pr : List Nat} (hp : SN (L.drop n) pr) : HH ⟨g.floor, pr ++ g.Bm⟩ h (L.take n) (L.drop n ++ F) := by
 refine (a.cut n).Xn (fun i hi hn => ?_) (fun i hi => ?_)
 ·have h1 := hp.mem i hn
  have h2 := a.nd
  rw [← List.take_append_drop n L, CP, CP, List.append_assoc, List.nodup_append] at h2
  exact h2.2.2 i hi i (List.mem_append.2 (.inl h1)) rfl
 ·refine a.lt (i := i) ?_
  rw [← List.take_append_drop n L, CP, CP]
  exact List.mem_append.2 (.inl (List.mem_append.2 (.inr (hp.mem i hi))))
theorem HH.S4 {pr : List Nat} {n : Nat} {L' : List Ck} (a : HH g h L F) (b : HH ⟨g.floor, pr ++ g.Bm⟩ h' L' (L.drop n ++ F)) : HH g h' (L' ++ L.drop n) F :=
 a.glue b (fun i hm => by
  simp only [Gd.may, Bool.and_eq_true, Bool.not_eq_true', List.any_append, Bool.or_eq_false_iff] at hm ⊢
  exact ⟨hm.1, hm.2.2⟩) (fun i hi => List.mem_append.2 (.inr hi)) rfl
end
section
variable {C : Hj} {g : Gd} {h : AM} {f : FuncId}
theorem Oe {args : List AD} {n : Nat} {rs : List ResultVar} {R : AD → AM → Prop} (hf : IP C.P f = some (n, rs))
  (hh : AW C f g (Lw C.P f) (args ++ List.replicate (n - args.length) (.tuple [])) h (fun e fr h' => (e = .ret ∨ e = .normal) ∧ ∃ v, Lp C.P rs fr h' = some v ∧ R v h')) : ∃ v h', J8 C g h f args v h' ∧ R v h' := by
 obtain ⟨m, e, fr', h2, hx, ⟨hq, v, hv, hR⟩⟩ := hh.ex
 exact ⟨v, h2, Vo hf ⟨⟨m, e, fr', h2, hx, ⟨hq, hv, rfl⟩⟩⟩, hR⟩
theorem Wr {args args' : List AD} {n : Nat} {rs : List ResultVar} {R : AD → AM → Prop} (hk : C.kind f = 1) (hc : BH (C.still f) args = args') (hf : IP C.P f = some (n, rs))
  (hh : AW C f g (Lw C.P f) (args' ++ List.replicate (n - args'.length) (.tuple [])) h (fun e fr h' => (e = .ret ∨ e = .normal) ∧ ∃ v, Lp C.P rs fr h' = some v ∧ R v h')) : ∃ v h', BN C g h f args v h' ∧ R v h' := by
 obtain ⟨v, h', hb, hR⟩ := Oe hf hh
 exact ⟨v, h', XP hk hc hb, hR⟩
theorem Wo {args args' : List AD} {n : Nat} {rs : List ResultVar} {R : AD → AM → Prop} (hk : C.kind f = 7) (hc : BH (C.still f) args = args') (hf : IP C.P f = some (n, rs))
  (hh : AW C f g (Lw C.P f) (args' ++ List.replicate (n - args'.length) (.tuple [])) h (fun e fr h' => (e = .ret ∨ e = .normal) ∧ ∃ v, Lp C.P rs fr h' = some v ∧ ∃ v' h'', PT g h' v = some (v', h'') ∧ R v' h'')) : ∃ v h', BN C g h f args v h' ∧ R v h' := by
 obtain ⟨v, h', hb, v', h'', hz, hR⟩ := Oe hf hh
 exact ⟨v', h'', Xm hk hc hb hz, hR⟩
theorem W9 {args args' : List AD} {n : Nat} {rs : List ResultVar} {R : AD → AM → Prop} (hk : C.kind f = 9) (hc : BH (C.still f) args = args') (hf : IP C.P f = some (n, rs))
  (hh : AW C f g (Lw C.P f) (args' ++ List.replicate (n - args'.length) (.tuple [])) h (fun e fr h' => (e = .ret ∨ e = .normal) ∧ ∃ v, Lp C.P rs fr h' = some v ∧ ∃ v' h'', Rc g h' v = some (v', h'') ∧ R v' h'')) : ∃ v h', BN C g h f args v h' ∧ R v h' := by
 obtain ⟨v, h', hb, v', h'', hz, hR⟩ := Oe hf hh
 exact ⟨v', h'', Xe hk hc hb hz, hR⟩
theorem YV {P : Program} {fr : Fr} {N : Nat} {l : List (Nat × AD)} {rs : List ResultVar} {v : AD} (H : Has fr N l) (hr : ∀ fr, Lp P rs (DE N l fr) h = some v) : Lp P rs fr h = some v := by
 have := hr fr
 rwa [E4 H] at this
theorem YP {fr : Fr} {N : Nat} {l : List (Nat × AD)} {t : Nat} {v : AD} (H : Has fr N l) (hr : ∀ fr, nth (DE N l fr) t = v) : nth fr t = v := by
 have := hr fr
 rwa [E4 H] at this
end
section
variable {g : Gd} {h : AM}
theorem KL (vs : List AD) : PT g h (.tuple vs) = (Ix (NI g) vs h).map fun r => (.tuple r.1, r.2) := rfl
theorem KH (cs : List AD) : PT g h (.agg cs) = (Ix (F4 g) cs h).map fun r => (.agg r.1, r.2) := rfl
theorem J5 (r : Option Nat) (n : Nat) : PT g h (AF r n) = F4 g h (AF r n) := rfl
theorem KN (n : Nat) (cs : List AD) : PT g h (.HN n cs) = some (.HN n cs, h) := rfl
theorem KP (cs : List AD) : NI g h (.agg cs) = (Ix (F4 g) cs h).map fun r => (.agg r.1, r.2) := rfl
theorem KZ (r : Option Nat) (n : Nat) : NI g h (AF r n) = F4 g h (AF r n) := rfl
theorem KF (n : Nat) (cs : List AD) : NI g h (.HN n cs) = some (.HN n cs, h) := rfl
theorem KV (k : IntKind) (n : Int) : NI g h (.int k n) = some (.int k n, h) := rfl
theorem KW (b : Bool) : NI g h (.bool b) = some (.bool b, h) := rfl
theorem J3 (s : List UInt8) : NI g h (.str s) = some (.str s, h) := rfl
theorem KM : NI g h (.slice none 0) = some (.HN 0 [], h) := rfl
theorem HM (f : AM → AD → Option (AD × AM)) : Ix f [] h = some ([], h) := rfl
theorem G3 (f : AM → AD → Option (AD × AM)) (v : AD) (vs : List AD) : Ix f (v :: vs) h = (match f h v with | some (v', h1) => (Ix f vs h1).map fun r => (v' :: r.1, r.2) | none => none) := rfl
theorem HL (k : IntKind) (n : Int) : F4 g h (.int k n) = some (.int k n, h) := rfl
theorem HK (b : Bool) : F4 g h (.bool b) = some (.bool b, h) := rfl
theorem G2 (s : List UInt8) : F4 g h (.str s) = some (.str s, h) := rfl
theorem HB (n : Nat) (cs : List AD) : F4 g h (.HN n cs) = some (.HN n cs, h) := rfl
theorem HF : F4 g h (.slice none 0) = some (.HN 0 [], h) := rfl
end
def VG : List (Nat × List Bool) → Nat → List Bool
 | [], _ => []
 | (a, b) :: l, f => bif Nat.beq a f then b else VG l f
end Go.Av
