/-
  ABS, 34: rows of one's own of which a front part alone is meant.
-/
import Derived.Test.YtiodcbipjnmpgaaAvTy
namespace Go.Av
set_option linter.unusedVariables false
set_option linter.unusedSimpArgs false
def spSubO (P : Program) (fr : Fr) : Op → Option (Option (Nat × Nat) × Nat × Nat × Option AVal × Option AVal)
 | .slice t x lo hi none =>
  match P.underlying t, ev fr x with
  | some (.slice e), .slice r n => (szOf P e).map fun z => (r, n, z, lo.map (ev fr), hi.map (ev fr))
  | _, _ => none
 | _ => none
section
variable {α : Type} {e : α → List AVal} {z : Nat} {g : Gd} {h : AHeap} {L F : List Ck}
theorem HH.tl0 (a : HH g h L F) (k : Nat) {r : Option Nat} {t : TypeId} {xs : List α} (hk : L[k]? = some (.lst r t (lst e xs))) : HH g h (L.set k (.lst r t (lst e (xs ++ [])))) F := by
 rw [List.append_nil, set_split hk, ← split_at hk]; exact a
theorem HH.cutT (a : HH g h L F) (k : Nat) {r : Option Nat} {t : TypeId} {xs tl ys : List α} {u : Int} (hk : L[k]? = some (.lst r t (lst e (xs ++ tl)))) (hs : subV xs none (some u) = some ys) : ∃ tl', HH g h (L.set k (.lst r t (lst e (ys ++ tl')))) F := by
 refine ⟨xs.drop u.toNat ++ tl, ?_⟩
 unfold subV bnd at hs
 simp only at hs
 split at hs
 ·simp only [Option.map_some, List.drop_zero, Nat.sub_zero, Option.some.injEq] at hs
  rw [← hs, ← List.append_assoc, List.take_append_drop, set_split hk, ← split_at hk]; exact a
 ·cases hs
theorem HH.ixT (E : Enc e z) (hz : z ≠ 0) (a : HH g h L F) (k : Nat) {r : Option Nat} {t : TypeId} {xs tl : List α} (hk : L[k]? = some (.lst r t (lst e (xs ++ tl)))) {i : Int} {x : α} (hi : ixV xs i = some x) :
  ∃ id, r = some id ∧ h.get id = some (.cells (some t) 2 (lst e (xs ++ tl))) ∧ ixL (rowS r xs.length) z i = some (id, i.toNat * z) ∧ (xs ++ tl)[i.toNat]? = some x := by
 unfold ixV at hi
 split at hi
 ·rename_i h0
  have hlt := (List.getElem?_eq_some_iff.1 hi).1
  have hi2 : (xs ++ tl)[i.toNat]? = some x := by rw [List.getElem?_append_left hlt]; exact hi
  cases r with
  | none =>
   have hn : lst e (xs ++ tl) = [] := a.mem hk
   exfalso
   have h1 := E.lenL (xs ++ tl)
   rw [hn] at h1
   have h2 : (xs ++ tl).length * z = 0 := by simpa using h1.symm
   rcases Nat.mul_eq_zero.1 h2 with h | h
   ·rw [List.length_append] at h; omega
   ·exact hz h
  | some id =>
   refine ⟨id, rfl, a.mem hk, ?_, hi2⟩
   simp only [rowS, Option.map_some, ixL]
   rw [ixA, if_pos ⟨h0, by omega⟩]
   simp
 ·cases hi
theorem row_firstT (a : HH g h L F) (k : Nat) {r : Option Nat} {e : TypeId} {cs tl : List AVal} (hk : L[k]? = some (.lst r e (cs ++ tl))) {n z : Nat} (hn : cs.length = n * z) (hz : z ≠ 0) : firstA h z n (rowV r n) = some cs := by
 have hok := a.mem hk
 unfold rowV firstA
 cases r with
 | none =>
  have : cs ++ tl = [] := hok
  have hcs : cs = [] := (List.append_eq_nil_iff.1 this).1
  subst hcs
  have h0 : n = 0 := by
   have : n * z = 0 := by simpa using hn.symm
   rcases Nat.mul_eq_zero.1 this with h | h
   ·exact h
   ·exact absurd h hz
  subst h0
  simp
 | some id =>
  have hg : h.get id = some (.cells (some e) 2 (cs ++ tl)) := hok
  simp only [Option.map_some]
  by_cases h0 : n = 0
  ·subst h0
   rw [if_pos rfl]
   have : cs = [] := List.eq_nil_of_length_eq_zero (by simpa using hn)
   rw [this]
  ·rw [if_neg h0]
   unfold cellsAt
   simp only [hg]
   rw [if_pos ⟨by simp, by rw [List.length_append]; omega⟩, List.drop_zero, ← hn, List.take_left]
theorem HH.appTC (a : HH g h L F) (k : Nat) {r : Option Nat} {e : TypeId} {cs tl new new' : List AVal} {z bytes n m : Nat} {x : AVal} (hk : L[k]? = some (.lst r e (cs ++ tl))) (hn : cs.length = n * z) (hz : z ≠ 0) (hx : firstA h z m x = some new) (hc : new.map can1 = new') (hm : new'.length = m * z) (hm0 : m ≠ 0)
  (hb : n + m ≤ 1099511627776 ∧ (n + m) * bytes ≤ 1099511627776) (h1 : cs.all AVal.one = true) (h2 : new'.all AVal.one = true) :
  ∃ r' h', Av.app e z bytes g h (rowS r n) m x = some (rowS r' (n + m), h') ∧ HH g h' (L.set k (.lst r' e (cs ++ new'))) F := by
 have hfo : firstA h z n (rowV r n) = some cs := row_firstT a k hk hn hz
 unfold Av.app
 rw [if_neg hm0, if_pos (show (rowS r n).n + m ≤ 1099511627776 ∧ ((rowS r n).n + m) * bytes ≤ 1099511627776 from hb)]
 simp only [rowS, hx, Option.map_some, hc]
 rw [show firstA h z n (.slice (r.map fun i => (i, 0)) n) = some cs from hfo]
 simp only
 rw [if_pos (by rw [List.all_append, h1, h2]; rfl)]
 cases r with
 | none =>
  refine ⟨some h.size, _, rfl, ?_⟩
  exact a.upd1 hk (by simp) (fun i hi _ => h.get_push_old _ hi) (h.get_push_new _) (fun i hi => by simp [Ck.ids] at hi; omega) (fun i hi => by simp [Ck.ids] at hi; rw [hi]; exact a.new)
 | some id =>
  have hg : h.get id = some (.cells (some e) 2 (cs ++ tl)) := a.mem hk
  have hid := h.lt_of_get hg
  simp only [Option.map_some, hg]
  rw [if_pos ⟨a.mayK hk (by simp [Ck.ids]), trivial⟩]
  refine ⟨some h.size, _, rfl, ?_⟩
  refine a.upd1 hk (by simp) (fun i hi hn => ?_) ?_ (fun i hi => by simp [Ck.ids] at hi; omega) (fun i hi => by simp [Ck.ids] at hi; rw [hi]; exact a.new)
  ·rw [AHeap.get_push_old _ _ (by simpa using hi)]
   exact h.get_set_ne _ hid (by simpa [Ck.ids] using hn)
  ·have := AHeap.get_push_new (h.set id (.cells (some e) 0 [])) (.cells (some e) 2 (cs ++ new'))
   exact this
theorem HH.appT (E : Enc e z) (hz : z ≠ 0) (a : HH g h L F) (k : Nat) {r : Option Nat} {t : TypeId} {xs tl ys : List α} {new : List AVal} {bytes m : Nat} {x : AVal} (hk : L[k]? = some (.lst r t (lst e (xs ++ tl)))) (hx : firstA h z m x = some new) (hc : new.map can1 = lst e ys) (hm : m = ys.length) (hb : okN bytes (xs.length + m) = true) :
  ∃ r' tl' h', Av.app t z bytes g h (rowS r xs.length) m x = some (rowS r' (xs ++ ys).length, h') ∧ HH g h' (L.set k (.lst r' t (lst e ((xs ++ ys) ++ tl')))) F := by
 subst hm
 have e0 : lst e (xs ++ tl) = lst e xs ++ lst e tl := by simp [lst]
 cases ys with
 | nil =>
  refine ⟨r, tl, h, ?_, ?_⟩
  ·simp [Av.app, rowS]
  ·rw [List.append_nil, set_split hk, ← split_at hk]; exact a
 | cons y ys =>
  obtain ⟨r', h', h1, h2⟩ := a.appTC k (by rw [hk, e0]) (E.lenL xs) hz hx hc (E.lenL (y :: ys)) (by simp) (of_decide_eq_true hb) (E.oneL xs) (E.oneL (y :: ys))
  refine ⟨r', [], h', by rw [h1, List.length_append], ?_⟩
  have : lst e ((xs ++ (y :: ys)) ++ []) = lst e xs ++ lst e (y :: ys) := by simp [lst]
  rw [this]; exact h2
theorem s_subT {C : Cfg} {S : Self} {fr : Fr} {op : Op} (E : Enc e z) (hz : z ≠ 0) (a : HH g h L F) (k : Nat) {r : Option Nat} {t : TypeId} {xs tl ys : List α} {k' : IntKind} {u : Int} (hk : L[k]? = some (.lst r t (lst e (xs ++ tl))))
  (hs : spSubO C.P fr op = some ((rowS r xs.length).r, xs.length, z, none, some (.int k' u))) (ht : szOf C.P t = some z) (hl : subV xs none (some u) = some ys) : stepA C S g h fr op = some (rowV r ys.length, h) := by
 unfold spSubO at hs
 split at hs
 ·rename_i t0 x lo hi
  split at hs
  ·rename_i el r0 n hu hx
   obtain ⟨z', hz', he⟩ := Option.map_eq_some_iff.1 hs
   simp only [Prod.mk.injEq] at he
   obtain ⟨rfl, rfl, rfl, e1, e2⟩ := he
   unfold subV bnd at hl
   simp only at hl
   split at hl
   ·rename_i hb
    simp only [Option.map_some, List.drop_zero, Nat.sub_zero, Option.some.injEq] at hl
    have hyl : ys.length = u.toNat := by rw [← hl, List.length_take]; omega
    have hc : clsOf C.P (.slice t0 x lo hi none) = 1 := by simp only [clsOf, hu]
    have hbd : boundsA xs.length (lo.map (ev fr)) (hi.map (ev fr)) = some (0, u.toNat) := by rw [e1, e2]; simp only [boundsA]; rw [if_pos hb]
    show opA C.P C.glob g h fr (.slice t0 x lo hi none) = _
    cases r with
    | none =>
     have hn : lst e (xs ++ tl) = [] := a.mem hk
     have h1 := E.lenL (xs ++ tl)
     rw [hn] at h1
     have h2 : (xs ++ tl).length * z' = 0 := by simpa using h1.symm
     have h3 : xs = [] := by
      rcases Nat.mul_eq_zero.1 h2 with h | h
      ·rw [List.length_append] at h; exact List.eq_nil_of_length_eq_zero (by omega)
      ·exact absurd h hz
     subst h3
     have hys : ys = [] := by rw [← hl]; simp
     subst hys
     have hx' : ev fr x = .slice none 0 := by rw [hx]; rfl
     simp only [opA, hc, touchA, hx', refOf, opR, sliceR, hu, hz', Option.bind_some]
     rw [show boundsA 0 (lo.map (ev fr)) (hi.map (ev fr)) = some (0, u.toNat) from hbd]
     rfl
    | some id =>
     have hg : h.get id = some (.cells (some t) 2 (lst e (xs ++ tl))) := a.mem hk
     have hx' : ev fr x = .slice (some (id, 0)) xs.length := by rw [hx]; rfl
     simp only [opA, hc, touchA, hx', refOf, hg, opR, sliceR, hu, hz', ht, if_true, hbd, Option.map_some, Nat.zero_mul, Nat.add_zero, Nat.sub_zero, rowV, hyl]
   ·cases hl
  ·cases hs
 ·cases hs
end
end Go.Av
