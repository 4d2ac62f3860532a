/-
 A part.
-/
import Derived.Test.YtlljeoogceblmaaGreatDoorAvHH
namespace Go.Av
set_option linter.unusedVariables false
structure Md {α : Type} (e : α → List AB) (z : Nat) : Prop where
 len : ∀ x, (e x).length = z
 one : ∀ x, (e x).all AB.one = true
 can : ∀ x, (e x).map FC = e x
abbrev Ag {α : Type} (e : α → List AB) (xs : List α) : List AB := xs.flatMap e
abbrev vs {α : Type} (e : α → List AB) (xs : List α) : AB := .Iw xs.length (Ag e xs)
def eI (k : IntKind) (x : Int) : List AB := [.int k x]
def eS (x : List UInt8) : List AB := [.str x]
def eY (x : UInt8) : List AB := [.int .u8 x.toNat]
def eL {α : Type} (e : α → List AB) (xs : List α) : List AB := [vs e xs]
theorem encI (k : IntKind) : Md (eI k) 1 := ⟨fun _ => rfl, fun _ => rfl, fun _ => rfl⟩
theorem encS : Md eS 1 := ⟨fun _ => rfl, fun _ => rfl, fun _ => rfl⟩
theorem JA : Md eY 1 := ⟨fun _ => rfl, fun _ => rfl, fun _ => rfl⟩
section
variable {α : Type} {e : α → List AB} {z : Nat}
theorem Md.Nf (E : Md e z) : ∀ xs : List α, (Ag e xs).length = xs.length * z
 | [] => by simp
 | x :: xs => by simp only [Ag, List.flatMap_cons, List.length_append, E.len, List.length_cons]; rw [show (List.flatMap e xs).length = xs.length * z from E.Nf xs, Nat.add_mul]; omega
theorem Md.Zi (E : Md e z) (xs : List α) : (Ag e xs).all AB.one = true := by
 rw [List.all_eq_true]
 intro v hv
 obtain ⟨x, _, hx⟩ := List.mem_flatMap.1 hv
 exact List.all_eq_true.1 (E.one x) v hx
theorem Md.A9 (E : Md e z) : ∀ xs : List α, (Ag e xs).map FC = Ag e xs
 | [] => rfl
 | x :: xs => by simp only [Ag, List.flatMap_cons, List.map_append, E.can]; rw [show (List.flatMap e xs).map FC = _ from E.A9 xs]
theorem Md.drop (E : Md e z) : ∀ (xs : List α) (n : Nat), (Ag e xs).drop (n * z) = Ag e (xs.drop n)
 | [], n => by simp
 | x :: xs, 0 => by simp
 | x :: xs, n + 1 => by
  simp only [Ag, List.flatMap_cons, List.drop_succ_cons]
  rw [Nat.add_mul, Nat.one_mul, Nat.add_comm, ← E.len x, List.drop_length_add_append, E.len x]
  exact E.drop xs n
theorem Md.at_ (E : Md e z) {xs : List α} {i : Nat} {x : α} (h : xs[i]? = some x) : ((Ag e xs).drop (i * z)).take z = e x := by
 obtain ⟨hi, hx⟩ := List.getElem?_eq_some_iff.1 h
 rw [E.drop, List.drop_eq_getElem_cons hi, hx]
 simp only [Ag, List.flatMap_cons]
 rw [← E.len x, List.take_left]
end
def Hj {α : Type} (xs : List α) (i : Int) : Option α := if 0 ≤ i then xs[i.toNat]? else none
section
variable (P : Program) (fr : Fr)
def YE : Op → Option (Nat × List AB × Nat × Int)
 | .indexAddr t x i =>
  match P.underlying t, ev fr x, ev fr i with
  | some (.slice e), .Iw n cs, .int _ i => (CE P e).map fun z => (n, cs, z, i)
  | _, _, _ => none
 | _ => none
def Zq : Op → Option AB
 | .load t a =>
  match ev fr a with
  | .Am cs => Gc P (some (.cells none 1 cs)) t 0
  | _ => none
 | _ => none
end
section
variable {C : Ft} {S : Self} {g : Gd} {h h1 : AD} {fr : Fr} {op : Op} {α : Type} {e : α → List AB} {z : Nat}
theorem PK {xs : List α} {i : Int} {x : α} (E : Md e z) (hz : z ≠ 0) (hs : YE C.P fr op = some (xs.length, Ag e xs, z, i)) (hl : Hj xs i = some x) : A7 C S g h fr op = some (.Am (e x), h) := by
 unfold YE at hs
 split at hs
 ·rename_i t y j
  split at hs
  ·rename_i el n cs k i' hu hv hi
   simp only [Option.map_eq_some_iff, Prod.mk.injEq] at hs
   obtain ⟨z', hz', rfl, rfl, rfl, rfl⟩ := hs
   unfold Hj at hl
   split at hl
   ·rename_i h0
    have hlt := (List.getElem?_eq_some_iff.1 hl).1
    rw [HY (by simp [As])]
    simp only [HR, As, IF, hv, hi, Hp, hu]
    rw [if_pos ⟨h0, by omega⟩, hz', Option.bind_some, if_pos ⟨E.Nf xs, hz⟩, E.at_ hl]
    rfl
   ·cases hl
  ·cases hs
 ·cases hs
theorem US {v : AB} (hs : Zq C.P fr op = some v) : A7 C S g h fr op = some (v, h) := by
 unfold Zq at hs
 split at hs
 ·split at hs
  ·rename_i cs hv
   rw [HY (by simp [As])]
   simp only [HR, As, C3, hv, EI, Jn, hs, Option.map_some]
  ·cases hs
 ·cases hs
theorem OB : ∀ l : List UInt8, bytesOf (Ag eY l) = some l
 | [] => rfl
 | b :: l => by
  simp only [Ag, List.flatMap_cons, eY, List.singleton_append, bytesOf]
  rw [show bytesOf (List.flatMap eY l) = some l from OB l]
  simp
end
section
variable {g : Gd} {h : AD} {L F : List Ck} {α : Type} {e : α → List AB} {z : Nat}
theorem HH.to {h' : AD} (a : HH g h L F) (e : h' = h) : HH g h' L F := e ▸ a
theorem VU (E : Md e z) (h : AD) (xs : List α) : Db h z xs.length (vs e xs) = some (Ag e xs) := by
 unfold Db vs
 simp only
 rw [if_pos ⟨Nat.le_refl _, E.Nf xs⟩, List.take_of_length_le (by rw [E.Nf xs]; exact Nat.le_refl _)]
theorem Se (h : AD) (s : List UInt8) : Db h 1 s.length (.str s) = some (Ag eY s) := by
 unfold Db
 simp only [if_true, List.take_length]
 congr 1
 induction s with
 | nil => rfl
 | cons b s ih => simp [Ag, eY]; simpa [Ag, eY] using ih
def Ov (bytes n : Nat) : Bool := decide (n ≤ 1099511627776 ∧ n * bytes ≤ 1099511627776)
theorem HH.Ju (E : Md e z) (hz : z ≠ 0) (a : HH g h L F) (k : Nat) {r : Option Nat} {t : TypeId} {xs ys : List α} {new : List AB} {bytes m : Nat} {x : AB} (hk : L[k]? = some (.Ag r t (Ag e xs))) (hx : Db h z m x = some new) (hc : new.map FC = Ag e ys) (hm : m = ys.length) (hb : Ov bytes (xs.length + m) = true) :
  ∃ r' h', Av.app t z bytes g h (DT r xs.length) m x = some (DT r' (xs ++ ys).length, h') ∧ HH g h' (L.set k (.Ag r' t (Ag e (xs ++ ys)))) F := by
 subst hm
 obtain ⟨r', h', h1, h2⟩ := a.app k hk (E.Nf xs) hz hx hc (E.Nf ys) (of_decide_eq_true hb) (E.Zi xs) (E.Zi ys)
 refine ⟨r', h', by rw [h1, List.length_append], ?_⟩
 have : Ag e (xs ++ ys) = Ag e xs ++ Ag e ys := by simp [Ag]
 rw [this]; exact h2
theorem HH.SL (E : Md e z) (hz : z ≠ 0) (a : HH g h L F) (k : Nat) {r : Option Nat} {t : TypeId} {xs : List α} (hk : L[k]? = some (.Ag r t (Ag e xs))) {i : Int} {x : α} (hi : Hj xs i = some x) :
  ∃ id, r = some id ∧ h.get id = some (.cells (some t) 2 (Ag e xs)) ∧ aM (DT r xs.length) z i = some (id, i.toNat * z) ∧ xs[i.toNat]? = some x := by
 unfold Hj at hi
 split at hi
 ·rename_i h0
  have hlt := (List.getElem?_eq_some_iff.1 hi).1
  cases r with
  | none =>
   have hn : Ag e xs = [] := a.mem hk
   exfalso
   have h1 := E.Nf xs
   rw [hn] at h1
   have h2 : xs.length * z = 0 := by simpa using h1.symm
   rcases Nat.mul_eq_zero.1 h2 with h | h
   ·omega
   ·exact hz h
  | some id =>
   refine ⟨id, rfl, a.mem hk, ?_, hi⟩
   simp only [DT, Option.map_some, aM]
   rw [aP, if_pos ⟨h0, by omega⟩]
   simp
 ·cases hi
theorem HH.row (a : HH g h L F) (k : Nat) {r : Option Nat} {t : TypeId} {cs : List AB} (hk : L[k]? = some (.Ag r t cs)) {id : Nat} (er : r = some id) : h.get id = some (.cells (some t) 2 cs) := by
 subst er; exact a.mem hk
theorem Kt (E : Md e z) {id : Nat} {gr : Option TypeId} {xs : List α} (hg : h.get id = some (.cells gr 2 (Ag e xs))) {i : Nat} {x : α} (hx : xs[i]? = some x) (o n : Nat) (hon : o + n ≤ z) : ET h (id, i * z + o) n = some (((e x).drop o).take n) := by
 have hi := (List.getElem?_eq_some_iff.1 hx).1
 have hle : (i + 1) * z ≤ xs.length * z := Nat.mul_le_mul_right _ (by omega)
 rw [Nat.add_mul, Nat.one_mul] at hle
 unfold Av.ET CM
 simp only [hg]
 rw [if_pos ⟨by simp, by rw [E.Nf xs]; omega⟩, ← E.at_ hx, ← List.drop_drop]
 congr 1
 generalize (Ag e xs).drop (i * z) = l
 rw [List.drop_take, List.take_take, Nat.min_eq_left (by omega)]
theorem IW (E : Md e z) {id : Nat} {gr : Option TypeId} {xs : List α} (hg : h.get id = some (.cells gr 2 (Ag e xs))) {i : Nat} {x : α} (hx : xs[i]? = some x) {o : Nat} {v : AB} (hv : (e x)[o]? = some v) : ld1 h (id, i * z + o) = some v := by
 have ho := (List.getElem?_eq_some_iff.1 hv).1
 have h1 := Kt E hg hx o 1 (by rw [E.len] at ho; omega)
 unfold Av.ET at h1
 unfold Av.ld1
 rw [h1, List.drop_eq_getElem_cons ho, (List.getElem?_eq_some_iff.1 hv).2]
 rfl
theorem Sb {A m B new : List AB} {o : Nat} (h : o + new.length ≤ m.length) : ER (A ++ (m ++ B)) (A.length + o) new = A ++ (ER m o new ++ B) := by
 unfold ER
 have e1 : (A ++ (m ++ B)).take (A.length + o) = A ++ m.take o := by
  rw [List.take_length_add_append, List.take_append_of_le_length (by omega)]
 have e2 : (A ++ (m ++ B)).drop (A.length + o + new.length) = m.drop (o + new.length) ++ B := by
  rw [Nat.add_assoc, List.drop_length_add_append, List.drop_append_of_le_length (by omega)]
 rw [e1, e2]
 simp [List.append_assoc]
theorem HH.ab (E : Md e z) (a : HH g h L F) (k : Nat) {r : Option Nat} {t : TypeId} {xs : List α} (hk : L[k]? = some (.Ag r t (Ag e xs))) {id : Nat} (er : r = some id) {i : Nat} {x y : α} (hx : xs[i]? = some x) {o : Nat} {new : List AB} (hs : ER (e x) o (new.map FC) = e y) (h1 : new.all AB.one = true) (hl : o + new.length ≤ z := by decide) :
  ∃ h', Av.st g h (id, i * z + o) new = some h' ∧ HH g h' (L.set k (.Ag r t (Ag e (xs.set i y)))) F := by
 have hg := a.row k hk er
 have hi := (List.getElem?_eq_some_iff.1 hx).1
 have hid := h.BC hg
 have hle : (i + 1) * z ≤ xs.length * z := Nat.mul_le_mul_right _ (by omega)
 rw [Nat.add_mul, Nat.one_mul] at hle
 have hm : g.may id = true := a.ML hk (by rw [er]; simp [Ck.ids])
 refine ⟨h.set id (.cells (some t) 2 (Ag e (xs.set i y))), ?_, ?_⟩
 ·unfold Av.st CN
  simp only [hg]
  rw [if_pos ⟨hm, by rw [E.Nf xs]; omega, h1⟩]
  congr 2
  have hsplit : Ag e xs = Ag e (xs.take i) ++ (e x ++ Ag e (xs.drop (i + 1))) := by
   conv => lhs; rw [← List.take_append_drop i xs, List.drop_eq_getElem_cons hi, (List.getElem?_eq_some_iff.1 hx).2]
   simp [Ag]
  have hlen : (Ag e (xs.take i)).length = i * z := by rw [E.Nf, List.length_take, Nat.min_eq_left (by omega)]
  have hset : Ag e (xs.set i y) = Ag e (xs.take i) ++ (e y ++ Ag e (xs.drop (i + 1))) := by
   rw [List.set_eq_take_append_cons_drop, if_pos hi]
   simp [Ag]
  show Bm.cells (some t) 2 (ER _ _ (new.map FC)) = _
  rw [hsplit, hset, ← hlen, Sb (by rw [E.len, List.length_map]; exact hl), hs]
 ·subst er
  refine a.RN hk (by simp) (fun j _ hj => h.BL _ hid (by simpa [Ck.ids] using hj)) (h.get_set_same _ hid) (fun j hj => .inl hj) (fun j hj => a.ML hk hj)
theorem Si {h1 : AD} {a : Nat × Nat} {cs : List AB} {n : Nat} (hs : st g h a cs = some h1) (hl : cs.length = n) : aK n g h a cs = some h1 := by unfold aK; rw [if_pos hl]; exact hs
def Wp (c : Int) : Option UInt8 := if 0 ≤ c ∧ c ≤ 255 then some (UInt8.ofNat c.toNat) else none
theorem TP {c : Int} {y : UInt8} (h : Wp c = some y) : c = (y.toNat : Int) := by
 unfold Wp at h
 split at h
 ·rename_i hc
  injection h with h
  subst h
  have : (UInt8.ofNat c.toNat).toNat = c.toNat % 256 := UInt8.toNat_ofNat'
  rw [this]; omega
 ·cases h
theorem Pe {C : Ft} {S : Self} {fr : Fr} {op : Op} {xs : List UInt8} (a : HH g h L F) (k : Nat) {r : Option Nat} {t : TypeId} (hk : L[k]? = some (.Ag r t (Ag eY xs))) (hs : Vy C.P fr op = some ((DT r xs.length).r, xs.length)) : A7 C S g h fr op = some (.str xs, h) := by
 refine Zj (s := DT r xs.length) hs ?_
 have hok := a.mem hk
 unfold au DT
 cases r with
 | none =>
  have : Ag eY xs = [] := hok
  have h1 := JA.Nf xs
  rw [this] at h1
  have : xs = [] := List.eq_nil_of_length_eq_zero (by simpa using h1.symm)
  subst this
  rfl
 | some id =>
  have hg : h.get id = some (.cells (some t) 2 (Ag eY xs)) := hok
  simp only [Option.map_some]
  by_cases h0 : xs.length = 0
  ·have : xs = [] := List.eq_nil_of_length_eq_zero h0
   subst this
   rw [if_pos h0, hg]
   rfl
  ·rw [if_neg h0]
   unfold CM
   simp only [hg]
   have h1 := JA.Nf xs
   rw [if_pos ⟨by simp, by rw [h1]; omega⟩, List.drop_zero, List.take_of_length_le (by rw [h1]; omega)]
   exact OB xs
def ZR (bytes : Nat) (n : Int) : Bool := decide (0 ≤ n ∧ n ≤ 1099511627776 ∧ bytes * n ≤ 1099511627776)
theorem NP {x : α} : ∀ n, EW (e x) n = Ag e (List.replicate n x)
 | 0 => rfl
 | n + 1 => by rw [List.replicate_succ, Ag, List.flatMap_cons, EW, NP n]
theorem WD {C : Ft} {S : Self} {fr : Fr} {op : Op} {h1 : AD} {t : TypeId} {bytes : Nat} {n : Int} {x : α} (E : Md e z) (hs : Xe C.P fr op = some (t, bytes, e x, n, n)) (hb : ZR bytes n = true) (hh : some (h.push (.cells (some t) 2 (Ag e (List.replicate n.toNat x)))) = some h1) :
  A7 C S g h fr op = some (AP (some h.size) (List.replicate n.toNat x).length, h1) := by
 have hb := of_decide_eq_true hb
 have := Zm (S := S) (g := g) hs (cs := Ag e (List.replicate n.toNat x)) (by unfold aI; rw [if_pos ⟨hb.1, Int.le_refl _, hb.2.1, hb.2.2⟩, NP]) hh
 rw [this, List.length_replicate]
 rfl
end
section
variable {g : Gd} {h h' : AD} {L F : List Ck}
theorem HH.YX (a : HH g h L F) (n : Nat) : HH g h (L.take n) F := by
 have hs : (Cr (L.take n ++ F)).Sublist (Cr (L ++ F)) := by
  rw [CV, CV]
  refine List.Sublist.append ?_ (List.Sublist.refl _)
  conv => rhs; rw [← List.take_append_drop n L, CV]
  exact List.sublist_append_left _ _
 exact ⟨fun c hc => a.ok c (by rcases List.mem_append.1 hc with h | h; exact List.mem_append.2 (.inl (List.mem_of_mem_take h)); exact List.mem_append.2 (.inr h)), a.nd.sublist hs,
  fun i hi => a.may i (by rw [← List.take_append_drop n L, CV]; exact List.mem_append.2 (.inl hi)), a.BP, a.floor⟩
inductive UT (R : List Ck) : List Nat → Prop where
 | nil : UT R []
 | cons {p : Nat} {ps : List Nat} {c : Ck} (k : Nat) : R[k]? = some c → p ∈ c.ids → UT R ps → UT R (p :: ps)
theorem UT.mem {R : List Ck} {ps : List Nat} (h : UT R ps) : ∀ p ∈ ps, p ∈ Cr R := by
 induction h with
 | nil => intro p hp; cases hp
 | cons k hk hm _ ih =>
  intro p hp
  rcases List.mem_cons.1 hp with rfl | hp
  ·simp only [Cr, List.mem_flatMap]; exact ⟨_, List.mem_of_getElem? hk, hm⟩
  ·exact ih p hp
theorem HH.HD (a : HH g h L F) (n : Nat) {pr : List Nat} (hp : UT (L.drop n) pr) : HH ⟨g.floor, pr ++ g.BP⟩ h (L.take n) (L.drop n ++ F) := by
 refine (a.cut n).Zb (fun i hi hn => ?_) (fun i hi => ?_)
 ·have h1 := hp.mem i hn
  have h2 := a.nd
  rw [← List.take_append_drop n L, CV, CV, List.append_assoc, List.nodup_append] at h2
  exact h2.2.2 i hi i (List.mem_append.2 (.inl h1)) rfl
 ·refine a.lt (i := i) ?_
  rw [← List.take_append_drop n L, CV, CV]
  exact List.mem_append.2 (.inl (List.mem_append.2 (.inr (hp.mem i hi))))
theorem HH.VC {pr : List Nat} {n : Nat} {L' : List Ck} (a : HH g h L F) (b : HH ⟨g.floor, pr ++ g.BP⟩ h' L' (L.drop n ++ F)) : HH g h' (L' ++ L.drop n) F :=
 a.glue b (fun i hm => by
  simp only [Gd.may, Bool.and_eq_true, Bool.not_eq_true', List.any_append, Bool.or_eq_false_iff] at hm ⊢
  exact ⟨hm.1, hm.2.2⟩) (fun i hi => List.mem_append.2 (.inr hi)) rfl
end
section
variable {C : Ft} {g : Gd} {h : AD} {f : FuncId}
theorem Vt {args : List AB} {n : Nat} {rs : List ResultVar} {R : AB → AD → Prop} (hf : JJ C.P f = some (n, rs))
  (hh : AW C f g (GF C.P f) (args ++ List.replicate (n - args.length) (.tuple [])) h (fun e fr h' => (e = .ret ∨ e = .normal) ∧ ∃ v, Ma C.P rs fr h' = some v ∧ R v h')) : ∃ v h', Qy C g h f args v h' ∧ R v h' := by
 obtain ⟨m, e, fr', h2, hx, ⟨hq, v, hv, hR⟩⟩ := hh.ex
 exact ⟨v, h2, Xo hf ⟨⟨m, e, fr', h2, hx, ⟨hq, hv, rfl⟩⟩⟩, hR⟩
theorem Yr {args args' : List AB} {n : Nat} {rs : List ResultVar} {R : AB → AD → Prop} (hk : C.kind f = 1) (hc : A9 (C.still f) args = args') (hf : JJ C.P f = some (n, rs))
  (hh : AW C f g (GF C.P f) (args' ++ List.replicate (n - args'.length) (.tuple [])) h (fun e fr h' => (e = .ret ∨ e = .normal) ∧ ∃ v, Ma C.P rs fr h' = some v ∧ R v h')) : ∃ v h', BB C g h f args v h' ∧ R v h' := by
 obtain ⟨v, h', hb, hR⟩ := Vt hf hh
 exact ⟨v, h', Zt hk hc hb, hR⟩
theorem ao {P : Program} {fr : Fr} {N : Nat} {l : List (Nat × AB)} {rs : List ResultVar} {v : AB} (H : Has fr N l) (hr : ∀ fr, Ma P rs (Cb N l fr) h = some v) : Ma P rs fr h = some v := by
 have := hr fr
 rwa [EA H] at this
theorem aZ {fr : Fr} {N : Nat} {l : List (Nat × AB)} {t : Nat} {v : AB} (H : Has fr N l) (hr : ∀ fr, nth (Cb N l fr) t = v) : nth fr t = v := by
 have := hr fr
 rwa [EA H] at this
end
def YL : List (Nat × List Bool) → Nat → List Bool
 | [], _ => []
 | (a, b) :: l, f => bif Nat.beq a f then b else YL l f
end Go.Av
