/-
  ABS, 24: plain Lean values as rows that nobody writes, and as rows of one's own; the steps on them.
-/
import Derived.Test.YtdpebdaplhfbjaaGreatDoorAvHH
namespace Go.Av
set_option linter.unusedVariables false
structure Enc {α : Type} (e : α → List AVal) (z : Nat) : Prop where
 len : ∀ x, (e x).length = z
 one : ∀ x, (e x).all AVal.one = true
 can : ∀ x, (e x).map can1 = e x
abbrev lst {α : Type} (e : α → List AVal) (xs : List α) : List AVal := xs.flatMap e
abbrev vs {α : Type} (e : α → List AVal) (xs : List α) : AVal := .vsl xs.length (lst e xs)
def eI (k : IntKind) (x : Int) : List AVal := [.int k x]
def eS (x : List UInt8) : List AVal := [.str x]
def eL {α : Type} (e : α → List AVal) (xs : List α) : List AVal := [vs e xs]
section
variable {α : Type} {e : α → List AVal} {z : Nat}
theorem Enc.lenL (E : Enc e z) : ∀ xs : List α, (lst e xs).length = xs.length * z
 | [] => by simp
 | x :: xs => by simp only [lst, List.flatMap_cons, List.length_append, E.len, List.length_cons]; rw [show (List.flatMap e xs).length = xs.length * z from E.lenL xs, Nat.add_mul]; omega
theorem Enc.oneL (E : Enc e z) (xs : List α) : (lst e xs).all AVal.one = true := by
 rw [List.all_eq_true]
 intro v hv
 obtain ⟨x, _, hx⟩ := List.mem_flatMap.1 hv
 exact List.all_eq_true.1 (E.one x) v hx
theorem Enc.take (E : Enc e z) : ∀ (xs : List α) (n : Nat), (lst e xs).take (n * z) = lst e (xs.take n)
 | [], n => by simp
 | x :: xs, 0 => by simp
 | x :: xs, n + 1 => by
  simp only [lst, List.flatMap_cons, List.take_succ_cons]
  rw [Nat.add_mul, Nat.one_mul, Nat.add_comm, ← E.len x, List.take_length_add_append, E.len x]
  congr 1
  exact E.take xs n
theorem Enc.drop (E : Enc e z) : ∀ (xs : List α) (n : Nat), (lst e xs).drop (n * z) = lst e (xs.drop n)
 | [], n => by simp
 | x :: xs, 0 => by simp
 | x :: xs, n + 1 => by
  simp only [lst, List.flatMap_cons, List.drop_succ_cons]
  rw [Nat.add_mul, Nat.one_mul, Nat.add_comm, ← E.len x, List.drop_length_add_append, E.len x]
  exact E.drop xs n
theorem Enc.at_ (E : Enc e z) {xs : List α} {i : Nat} {x : α} (h : xs[i]? = some x) : ((lst e xs).drop (i * z)).take z = e x := by
 obtain ⟨hi, hx⟩ := List.getElem?_eq_some_iff.1 h
 rw [E.drop, List.drop_eq_getElem_cons hi, hx]
 simp only [lst, List.flatMap_cons]
 rw [← E.len x, List.take_left]
end
def ixV {α : Type} (xs : List α) (i : Int) : Option α := if 0 ≤ i then xs[i.toNat]? else none
section
variable (P : Program) (fr : Fr)
def spIxV : Op → Option (Nat × List AVal × Nat × Int)
 | .indexAddr t x i =>
  match P.underlying t, ev fr x, ev fr i with
  | some (.slice e), .vsl n cs, .int _ i => (szOf P e).map fun z => (n, cs, z, i)
  | _, _, _ => none
 | _ => none
def spLv : Op → Option AVal
 | .load t a =>
  match ev fr a with
  | .vptr cs => loadA P (some (.cells none 1 cs)) t 0
  | _ => none
 | _ => none
end
section
variable {C : Cfg} {S : Self} {g : Gd} {h h1 : AHeap} {fr : Fr} {op : Op} {α : Type} {e : α → List AVal} {z : Nat}
theorem s_ixV {xs : List α} {i : Int} {x : α} (E : Enc e z) (hz : z ≠ 0) (hs : spIxV C.P fr op = some (xs.length, lst e xs, z, i)) (hl : ixV xs i = some x) : stepA C S g h fr op = some (.vptr (e x), h) := by
 unfold spIxV at hs
 split at hs
 ·rename_i t y j
  split at hs
  ·rename_i el n cs k i' hu hv hi
   simp only [Option.map_eq_some_iff, Prod.mk.injEq] at hs
   obtain ⟨z', hz', rfl, rfl, rfl, rfl⟩ := hs
   unfold ixV at hl
   split at hl
   ·rename_i h0
    have hlt := (List.getElem?_eq_some_iff.1 hl).1
    rw [stepA_of_cls (by simp [clsOf])]
    simp only [opA, clsOf, opP, hv, hi, indexAddrA, hu]
    rw [if_pos ⟨h0, by omega⟩, hz', Option.bind_some, if_pos ⟨E.lenL xs, hz⟩, E.at_ hl]
    rfl
   ·cases hl
  ·cases hs
 ·cases hs
theorem s_lv {v : AVal} (hs : spLv C.P fr op = some v) : stepA C S g h fr op = some (v, h) := by
 unfold spLv at hs
 split at hs
 ·split at hs
  ·rename_i cs hv
   rw [stepA_of_cls (by simp [clsOf])]
   simp only [opA, clsOf, touchA, hv, refOf, opR, hs, Option.map_some]
  ·cases hs
 ·cases hs
end
section
variable {g : Gd} {h : AHeap} {L F : List Ck} {α : Type} {e : α → List AVal} {z : Nat}
theorem HH.to {h' : AHeap} (a : HH g h L F) (e : h' = h) : HH g h' L F := e ▸ a
def okN (bytes n : Nat) : Bool := decide (n ≤ 1099511627776 ∧ n * bytes ≤ 1099511627776)
theorem HH.appO (E : Enc e z) (hz : z ≠ 0) (a : HH g h L F) (k : Nat) {r : Option Nat} {t : TypeId} {xs ys : List α} {new : List AVal} {bytes m : Nat} {x : AVal} (hk : L[k]? = some (.lst r t (lst e xs))) (hx : firstA h z m x = some new) (hc : new.map can1 = lst e ys) (hm : m = ys.length) (hb : okN bytes (xs.length + m) = true) :
  ∃ r' h', Av.app t z bytes g h (rowS r xs.length) m x = some (rowS r' (xs ++ ys).length, h') ∧ HH g h' (L.set k (.lst r' t (lst e (xs ++ ys)))) F := by
 subst hm
 obtain ⟨r', h', h1, h2⟩ := a.app k hk (E.lenL xs) hz hx hc (E.lenL ys) (of_decide_eq_true hb) (E.oneL xs) (E.oneL ys)
 refine ⟨r', h', by rw [h1, List.length_append], ?_⟩
 have : lst e (xs ++ ys) = lst e xs ++ lst e ys := by simp [lst]
 rw [this]; exact h2
theorem HH.ixO (E : Enc e z) (hz : z ≠ 0) (a : HH g h L F) (k : Nat) {r : Option Nat} {t : TypeId} {xs : List α} (hk : L[k]? = some (.lst r t (lst e xs))) {i : Int} {x : α} (hi : ixV xs i = some x) :
  ∃ id, r = some id ∧ h.get id = some (.cells (some t) 2 (lst e xs)) ∧ ixL (rowS r xs.length) z i = some (id, i.toNat * z) ∧ xs[i.toNat]? = some x := by
 unfold ixV at hi
 split at hi
 ·rename_i h0
  have hlt := (List.getElem?_eq_some_iff.1 hi).1
  cases r with
  | none =>
   have hn : lst e xs = [] := a.mem hk
   exfalso
   have h1 := E.lenL xs
   rw [hn] at h1
   have h2 : xs.length * z = 0 := by simpa using h1.symm
   rcases Nat.mul_eq_zero.1 h2 with h | h
   ·omega
   ·exact hz h
  | some id =>
   refine ⟨id, rfl, a.mem hk, ?_, hi⟩
   simp only [rowS, Option.map_some, ixL]
   rw [ixA, if_pos ⟨h0, by omega⟩]
   simp
 ·cases hi
theorem HH.row (a : HH g h L F) (k : Nat) {r : Option Nat} {t : TypeId} {cs : List AVal} (hk : L[k]? = some (.lst r t cs)) {id : Nat} (er : r = some id) : h.get id = some (.cells (some t) 2 cs) := by
 subst er; exact a.mem hk
theorem row_ldA (E : Enc e z) {id : Nat} {gr : Option TypeId} {xs : List α} (hg : h.get id = some (.cells gr 2 (lst e xs))) {i : Nat} {x : α} (hx : xs[i]? = some x) (o n : Nat) (hon : o + n ≤ z) : ldA h (id, i * z + o) n = some (((e x).drop o).take n) := by
 have hi := (List.getElem?_eq_some_iff.1 hx).1
 have hle : (i + 1) * z ≤ xs.length * z := Nat.mul_le_mul_right _ (by omega)
 rw [Nat.add_mul, Nat.one_mul] at hle
 unfold Av.ldA cellsAt
 simp only [hg]
 rw [if_pos ⟨by simp, by rw [E.lenL xs]; omega⟩, ← E.at_ hx, ← List.drop_drop]
 congr 1
 generalize (lst e xs).drop (i * z) = l
 rw [List.drop_take, List.take_take, Nat.min_eq_left (by omega)]
theorem row_ld1 (E : Enc e z) {id : Nat} {gr : Option TypeId} {xs : List α} (hg : h.get id = some (.cells gr 2 (lst e xs))) {i : Nat} {x : α} (hx : xs[i]? = some x) {o : Nat} {v : AVal} (hv : (e x)[o]? = some v) : ld1 h (id, i * z + o) = some v := by
 have ho := (List.getElem?_eq_some_iff.1 hv).1
 have h1 := row_ldA E hg hx o 1 (by rw [E.len] at ho; omega)
 unfold Av.ldA at h1
 unfold Av.ld1
 rw [h1, List.drop_eq_getElem_cons ho, (List.getElem?_eq_some_iff.1 hv).2]
 rfl
theorem stG_st {h1 : AHeap} {a : Nat × Nat} {cs : List AVal} {n : Nat} (hs : st g h a cs = some h1) (hl : cs.length = n) : stG n g h a cs = some h1 := by unfold stG; rw [if_pos hl]; exact hs
end
section
variable {g : Gd} {h h' : AHeap} {L F : List Ck}
theorem HH.dropF (a : HH g h L F) (n : Nat) : HH g h (L.take n) F := by
 have hs : (idsL (L.take n ++ F)).Sublist (idsL (L ++ F)) := by
  rw [idsL_app, idsL_app]
  refine List.Sublist.append ?_ (List.Sublist.refl _)
  conv => rhs; rw [← List.take_append_drop n L, idsL_app]
  exact List.sublist_append_left _ _
 exact ⟨fun c hc => a.ok c (by rcases List.mem_append.1 hc with h | h; exact List.mem_append.2 (.inl (List.mem_of_mem_take h)); exact List.mem_append.2 (.inr h)), a.nd.sublist hs,
  fun i hi => a.may i (by rw [← List.take_append_drop n L, idsL_app]; exact List.mem_append.2 (.inl hi)), a.prot, a.floor⟩
inductive PrOk (R : List Ck) : List Nat → Prop where
 | nil : PrOk R []
 | cons {p : Nat} {ps : List Nat} {c : Ck} (k : Nat) : R[k]? = some c → p ∈ c.ids → PrOk R ps → PrOk R (p :: ps)
theorem PrOk.mem {R : List Ck} {ps : List Nat} (h : PrOk R ps) : ∀ p ∈ ps, p ∈ idsL R := by
 induction h with
 | nil => intro p hp; cases hp
 | cons k hk hm _ ih =>
  intro p hp
  rcases List.mem_cons.1 hp with rfl | hp
  ·simp only [idsL, List.mem_flatMap]; exact ⟨_, List.mem_of_getElem? hk, hm⟩
  ·exact ih p hp
theorem HH.prot2 (a : HH g h L F) (n : Nat) {pr : List Nat} (hp : PrOk (L.drop n) pr) : HH ⟨g.floor, pr ++ g.prot⟩ h (L.take n) (L.drop n ++ F) := by
 refine (a.cut n).prot' (fun i hi hn => ?_) (fun i hi => ?_)
 ·have h1 := hp.mem i hn
  have h2 := a.nd
  rw [← List.take_append_drop n L, idsL_app, idsL_app, List.append_assoc, List.nodup_append] at h2
  exact h2.2.2 i hi i (List.mem_append.2 (.inl h1)) rfl
 ·refine a.lt (i := i) ?_
  rw [← List.take_append_drop n L, idsL_app, idsL_app]
  exact List.mem_append.2 (.inl (List.mem_append.2 (.inr (hp.mem i hi))))
theorem HH.glueP {pr : List Nat} {n : Nat} {L' : List Ck} (a : HH g h L F) (b : HH ⟨g.floor, pr ++ g.prot⟩ h' L' (L.drop n ++ F)) : HH g h' (L' ++ L.drop n) F :=
 a.glue b (fun i hm => by
  simp only [Gd.may, Bool.and_eq_true, Bool.not_eq_true', List.any_append, Bool.or_eq_false_iff] at hm ⊢
  exact ⟨hm.1, hm.2.2⟩) (fun i hi => List.mem_append.2 (.inr hi)) rfl
end
section
variable {C : Cfg} {g : Gd} {h : AHeap} {f : FuncId}
theorem body_ofQ {args : List AVal} {n : Nat} {rs : List ResultVar} {R : AVal → AHeap → Prop} (hf : hasBody C.P f = some (n, rs))
  (hh : AW C f g (bodyC C.P f) (args ++ List.replicate (n - args.length) (.tuple [])) h (fun e fr h' => (e = .ret ∨ e = .normal) ∧ ∃ v, resL C.P rs fr h' = some v ∧ R v h')) : ∃ v h', Bodies C g h f args v h' ∧ R v h' := by
 obtain ⟨m, e, fr', h2, hx, ⟨hq, v, hv, hR⟩⟩ := hh.ex
 exact ⟨v, h2, body_of hf ⟨⟨m, e, fr', h2, hx, ⟨hq, hv, rfl⟩⟩⟩, hR⟩
theorem runsQ1 {args args' : List AVal} {n : Nat} {rs : List ResultVar} {R : AVal → AHeap → Prop} (hk : C.kind f = 1) (hc : canL (C.still f) args = args') (hf : hasBody C.P f = some (n, rs))
  (hh : AW C f g (bodyC C.P f) (args' ++ List.replicate (n - args'.length) (.tuple [])) h (fun e fr h' => (e = .ret ∨ e = .normal) ∧ ∃ v, resL C.P rs fr h' = some v ∧ R v h')) : ∃ v h', Runs C g h f args v h' ∧ R v h' := by
 obtain ⟨v, h', hb, hR⟩ := body_ofQ hf hh
 exact ⟨v, h', runs1 hk hc hb, hR⟩
theorem runsQ7 {args args' : List AVal} {n : Nat} {rs : List ResultVar} {R : AVal → AHeap → Prop} (hk : C.kind f = 7) (hc : canL (C.still f) args = args') (hf : hasBody C.P f = some (n, rs))
  (hh : AW C f g (bodyC C.P f) (args' ++ List.replicate (n - args'.length) (.tuple [])) h (fun e fr h' => (e = .ret ∨ e = .normal) ∧ ∃ v, resL C.P rs fr h' = some v ∧ ∃ v' h'', frz3 g h' v = some (v', h'') ∧ R v' h'')) : ∃ v h', Runs C g h f args v h' ∧ R v h' := by
 obtain ⟨v, h', hb, v', h'', hz, hR⟩ := body_ofQ hf hh
 exact ⟨v', h'', runs7 hk hc hb hz, hR⟩
theorem resH {P : Program} {fr : Fr} {N : Nat} {l : List (Nat × AVal)} {rs : List ResultVar} {v : AVal} (H : Has fr N l) (hr : ∀ fr, resL P rs (mkFr N l fr) h = some v) : resL P rs fr h = some v := by
 have := hr fr
 rwa [mkFr_eq H] at this
theorem resT {fr : Fr} {N : Nat} {l : List (Nat × AVal)} {t : Nat} {v : AVal} (H : Has fr N l) (hr : ∀ fr, nth (mkFr N l fr) t = v) : nth fr t = v := by
 have := hr fr
 rwa [mkFr_eq H] at this
end
section
variable {g : Gd} {h : AHeap}
theorem fz3T (vs : List AVal) : frz3 g h (.tuple vs) = (frzL (frz2 g) vs h).map fun r => (.tuple r.1, r.2) := rfl
theorem fz3A (cs : List AVal) : frz3 g h (.agg cs) = (frzL (frz1 g) cs h).map fun r => (.agg r.1, r.2) := rfl
theorem fz3R (r : Option Nat) (n : Nat) : frz3 g h (rowV r n) = frz1 g h (rowV r n) := rfl
theorem fz3B (n : Nat) (cs : List AVal) : frz3 g h (.vsl n cs) = some (.vsl n cs, h) := rfl
theorem fz2A (cs : List AVal) : frz2 g h (.agg cs) = (frzL (frz1 g) cs h).map fun r => (.agg r.1, r.2) := rfl
theorem fz2R (r : Option Nat) (n : Nat) : frz2 g h (rowV r n) = frz1 g h (rowV r n) := rfl
theorem fz2V (n : Nat) (cs : List AVal) : frz2 g h (.vsl n cs) = some (.vsl n cs, h) := rfl
theorem fz2I (k : IntKind) (n : Int) : frz2 g h (.int k n) = some (.int k n, h) := rfl
theorem fz2B (b : Bool) : frz2 g h (.bool b) = some (.bool b, h) := rfl
theorem fz2S (s : List UInt8) : frz2 g h (.str s) = some (.str s, h) := rfl
theorem fz2N : frz2 g h (.slice none 0) = some (.vsl 0 [], h) := rfl
theorem fzL0 (f : AHeap → AVal → Option (AVal × AHeap)) : frzL f [] h = some ([], h) := rfl
theorem fzL1 (f : AHeap → AVal → Option (AVal × AHeap)) (v : AVal) (vs : List AVal) : frzL f (v :: vs) h = (match f h v with | some (v', h1) => (frzL f vs h1).map fun r => (v' :: r.1, r.2) | none => none) := rfl
theorem fz1I (k : IntKind) (n : Int) : frz1 g h (.int k n) = some (.int k n, h) := rfl
theorem fz1B (b : Bool) : frz1 g h (.bool b) = some (.bool b, h) := rfl
theorem fz1S (s : List UInt8) : frz1 g h (.str s) = some (.str s, h) := rfl
theorem fz1V (n : Nat) (cs : List AVal) : frz1 g h (.vsl n cs) = some (.vsl n cs, h) := rfl
theorem fz1N : frz1 g h (.slice none 0) = some (.vsl 0 [], h) := rfl
end
def lookB : List (Nat × List Bool) → Nat → List Bool
 | [], _ => []
 | (a, b) :: l, f => bif Nat.beq a f then b else lookB l f
end Go.Av
