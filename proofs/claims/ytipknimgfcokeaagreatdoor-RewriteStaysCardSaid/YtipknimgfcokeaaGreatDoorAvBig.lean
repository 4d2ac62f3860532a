/-
  Several texts in one.
-/
import Derived.Test.YtipknimgfcokeaaGreatDoorAvTy
import Derived.Test.YtipknimgfcokeaaGreatDoorAvChan
/-
  ABS, 34: rows of one's own of which a front part alone is meant.
-/
section
namespace Go.Av
set_option linter.unusedVariables false
set_option linter.unusedSimpArgs false
def UD (P : Program) (fr : Fr) : Op → Option (Option (Nat × Nat) × Nat × Nat × Option AB × Option AB)
 | .slice t x lo hi none =>
  match P.underlying t, ev fr x with
  | some (.slice e), .slice r n => (Cx P e).map fun z => (r, n, z, lo.map (ev fr), hi.map (ev fr))
  | _, _ => none
 | _ => none
theorem LF {C : IJ} {ops : Array Oper} {fr : Fr} {h1 : AH} {U : List Nat} {u j : Nat} (hu : u = j + 10000) (h : Ov C ops fr h1 j = true) (hr : Kj C ops U fr h1 = true) : Kj C ops (u :: U) fr h1 = true :=
 Sy (by rw [hu, Nat.add_sub_cancel, h, Bool.or_true]) hr
section
variable {α : Type} {e : α → List AB} {z : Nat} {g : Gd} {h : AH} {L F : List Ck}
theorem HH.X3 (a : HH g h L F) (k : Nat) {r : Option Nat} {t : TypeId} {xs : List α} (hk : L[k]? = some (.AO r t (AO e xs))) : HH g h (L.set k (.AO r t (AO e (xs ++ [])))) F := by
 rw [List.append_nil, JF hk, ← Gh hk]; exact a
theorem HH.Wy (a : HH g h L F) (k : Nat) {r : Option Nat} {t : TypeId} {xs tl ys : List α} {u : Int} (hk : L[k]? = some (.AO r t (AO e (xs ++ tl)))) (hs : N4 xs none (some u) = some ys) : ∃ tl', HH g h (L.set k (.AO r t (AO e (ys ++ tl')))) F := by
 refine ⟨xs.drop u.toNat ++ tl, ?_⟩
 unfold N4 RV at hs
 simp only at hs
 split at hs
 ·simp only [Option.map_some, List.drop_zero, Nat.sub_zero, Option.some.injEq] at hs
  rw [← hs, ← List.append_assoc, List.take_append_drop, JF hk, ← Gh hk]; exact a
 ·cases hs
theorem HH.X8 (E : Ky e z) (hz : z ≠ 0) (a : HH g h L F) (k : Nat) {r : Option Nat} {t : TypeId} {xs tl : List α} (hk : L[k]? = some (.AO r t (AO e (xs ++ tl)))) {i : Int} {x : α} (hi : Ff xs i = some x) :
  ∃ id, r = some id ∧ h.get id = some (.cells (some t) 2 (AO e (xs ++ tl))) ∧ WQ (Cf r xs.length) z i = some (id, i.toNat * z) ∧ (xs ++ tl)[i.toNat]? = some x := by
 unfold Ff at hi
 split at hi
 ·rename_i h0
  have hlt := (List.getElem?_eq_some_iff.1 hi).1
  have WC : (xs ++ tl)[i.toNat]? = some x := by rw [List.getElem?_append_left hlt]; exact hi
  cases r with
  | none =>
   have hn : AO e (xs ++ tl) = [] := a.mem hk
   exfalso
   have h1 := E.Hb (xs ++ tl)
   rw [hn] at h1
   have h2 : (xs ++ tl).length * z = 0 := by simpa using h1.symm
   rcases Nat.mul_eq_zero.1 h2 with h | h
   ·rw [List.length_append] at h; omega
   ·exact hz h
  | some id =>
   refine ⟨id, rfl, a.mem hk, ?_, WC⟩
   simp only [Cf, Option.map_some, WQ]
   rw [UW, if_pos ⟨h0, by omega⟩]
   simp
 ·cases hi
theorem Ro (a : HH g h L F) (k : Nat) {r : Option Nat} {e : TypeId} {cs tl : List AB} (hk : L[k]? = some (.AO r e (cs ++ tl))) {n z : Nat} (hn : cs.length = n * z) (hz : z ≠ 0) : DK h z n (AG r n) = some cs := by
 have hok := a.mem hk
 unfold AG DK
 cases r with
 | none =>
  have : cs ++ tl = [] := hok
  have hcs : cs = [] := (List.append_eq_nil_iff.1 this).1
  subst hcs
  have h0 : n = 0 := by
   have : n * z = 0 := by simpa using hn.symm
   rcases Nat.mul_eq_zero.1 this with h | h
   ·exact h
   ·exact absurd h hz
  subst h0
  simp
 | some id =>
  have hg : h.get id = some (.cells (some e) 2 (cs ++ tl)) := hok
  simp only [Option.map_some]
  by_cases h0 : n = 0
  ·subst h0
   rw [if_pos rfl]
   have : cs = [] := List.eq_nil_of_length_eq_zero (by simpa using hn)
   rw [this]
  ·rw [if_neg h0]
   unfold C5
   simp only [hg]
   rw [if_pos ⟨by simp, by rw [List.length_append]; omega⟩, List.drop_zero, ← hn, List.take_left]
theorem HH.W4 (a : HH g h L F) (k : Nat) {r : Option Nat} {e : TypeId} {cs tl new new' : List AB} {z bytes n m : Nat} {x : AB} (hk : L[k]? = some (.AO r e (cs ++ tl))) (hn : cs.length = n * z) (hz : z ≠ 0) (hx : DK h z m x = some new) (hc : new.map Gu = new') (hm : new'.length = m * z) (hm0 : m ≠ 0)
  (hb : n + m ≤ 1099511627776 ∧ (n + m) * bytes ≤ 1099511627776) (h1 : cs.all AB.one = true) (h2 : new'.all AB.one = true) :
  ∃ r' h', Av.app e z bytes g h (Cf r n) m x = some (Cf r' (n + m), h') ∧ HH g h' (L.set k (.AO r' e (cs ++ new'))) F := by
 have hfo : DK h z n (AG r n) = some cs := Ro a k hk hn hz
 unfold Av.app
 rw [if_neg hm0, if_pos (show (Cf r n).n + m ≤ 1099511627776 ∧ ((Cf r n).n + m) * bytes ≤ 1099511627776 from hb)]
 simp only [Cf, hx, Option.map_some, hc]
 rw [show DK h z n (.slice (r.map fun i => (i, 0)) n) = some cs from hfo]
 simp only
 rw [if_pos (by rw [List.all_append, h1, h2]; rfl)]
 cases r with
 | none =>
  refine ⟨some h.size, _, rfl, ?_⟩
  exact a.QV hk (by simp) (fun i hi _ => h.De _ hi) (h.Dh _) (fun i hi => by simp [Ck.ids] at hi; omega) (fun i hi => by simp [Ck.ids] at hi; rw [hi]; exact a.new)
 | some id =>
  have hg : h.get id = some (.cells (some e) 2 (cs ++ tl)) := a.mem hk
  have hid := h.DG hg
  simp only [Option.map_some, hg]
  rw [if_pos ⟨a.PS hk (by simp [Ck.ids]), trivial⟩]
  refine ⟨some h.size, _, rfl, ?_⟩
  refine a.QV hk (by simp) (fun i hi hn => ?_) ?_ (fun i hi => by simp [Ck.ids] at hi; omega) (fun i hi => by simp [Ck.ids] at hi; rw [hi]; exact a.new)
  ·rw [AH.De _ _ (by simpa using hi)]
   exact h.Ed _ hid (by simpa [Ck.ids] using hn)
  ·have := AH.Dh (h.set id (.cells (some e) 0 (cs ++ tl))) (.cells (some e) 2 (cs ++ new'))
   exact this
theorem HH.U1 (E : Ky e z) (hz : z ≠ 0) (a : HH g h L F) (k : Nat) {r : Option Nat} {t : TypeId} {xs tl ys : List α} {new : List AB} {bytes m : Nat} {x : AB} (hk : L[k]? = some (.AO r t (AO e (xs ++ tl)))) (hx : DK h z m x = some new) (hc : new.map Gu = AO e ys) (hm : m = ys.length) (hb : KI bytes (xs.length + m) = true) :
  ∃ r' tl' h', Av.app t z bytes g h (Cf r xs.length) m x = some (Cf r' (xs ++ ys).length, h') ∧ HH g h' (L.set k (.AO r' t (AO e ((xs ++ ys) ++ tl')))) F := by
 subst hm
 have e0 : AO e (xs ++ tl) = AO e xs ++ AO e tl := by simp [AO]
 cases ys with
 | nil =>
  refine ⟨r, tl, h, ?_, ?_⟩
  ·simp [Av.app, Cf]
  ·rw [List.append_nil, JF hk, ← Gh hk]; exact a
 | cons y ys =>
  obtain ⟨r', h', h1, h2⟩ := a.W4 k (by rw [hk, e0]) (E.Hb xs) hz hx hc (E.Hb (y :: ys)) (by simp) (of_decide_eq_true hb) (E.T5 xs) (E.T5 (y :: ys))
  refine ⟨r', [], h', by rw [h1, List.length_append], ?_⟩
  have : AO e ((xs ++ (y :: ys)) ++ []) = AO e xs ++ AO e (y :: ys) := by simp [AO]
  rw [this]; exact h2
theorem UJ {C : IJ} {S : Self} {fr : Fr} {op : Op} (E : Ky e z) (hz : z ≠ 0) (a : HH g h L F) (k : Nat) {r : Option Nat} {t : TypeId} {xs tl ys : List α} {k' : IntKind} {u : Int} (hk : L[k]? = some (.AO r t (AO e (xs ++ tl))))
  (hs : UD C.P fr op = some ((Cf r xs.length).r, xs.length, z, none, some (.int k' u))) (ht : Cx C.P t = some z) (hl : N4 xs none (some u) = some ys) : Bq C S g h fr op = some (AG r ys.length, h) := by
 unfold UD at hs
 split at hs
 ·rename_i t0 x lo hi
  split at hs
  ·rename_i el r0 n hu hx
   obtain ⟨z', hz', he⟩ := Option.map_eq_some_iff.1 hs
   simp only [Prod.mk.injEq] at he
   obtain ⟨rfl, rfl, rfl, e1, e2⟩ := he
   unfold N4 RV at hl
   simp only at hl
   split at hl
   ·rename_i hb
    simp only [Option.map_some, List.drop_zero, Nat.sub_zero, Option.some.injEq] at hl
    have hyl : ys.length = u.toNat := by rw [← hl, List.length_take]; omega
    have hc : BS C.P (.slice t0 x lo hi none) = 1 := by simp only [BS, hu]
    have hbd : ET xs.length (lo.map (ev fr)) (hi.map (ev fr)) = some (0, u.toNat) := by rw [e1, e2]; simp only [ET]; rw [if_pos hb]
    show Hy C.P C.EY g h fr (.slice t0 x lo hi none) = _
    cases r with
    | none =>
     have hn : AO e (xs ++ tl) = [] := a.mem hk
     have h1 := E.Hb (xs ++ tl)
     rw [hn] at h1
     have h2 : (xs ++ tl).length * z' = 0 := by simpa using h1.symm
     have h3 : xs = [] := by
      rcases Nat.mul_eq_zero.1 h2 with h | h
      ·rw [List.length_append] at h; exact List.eq_nil_of_length_eq_zero (by omega)
      ·exact absurd h hz
     subst h3
     have hys : ys = [] := by rw [← hl]; simp
     subst hys
     have hx' : ev fr x = .slice none 0 := by rw [hx]; rfl
     simp only [Hy, hc, Du, hx', E4, KF, Nh, hu, hz', Option.bind_some]
     rw [show ET 0 (lo.map (ev fr)) (hi.map (ev fr)) = some (0, u.toNat) from hbd]
     rfl
    | some id =>
     have hg : h.get id = some (.cells (some t) 2 (AO e (xs ++ tl))) := a.mem hk
     have hx' : ev fr x = .slice (some (id, 0)) xs.length := by rw [hx]; rfl
     simp only [Hy, hc, Du, hx', E4, hg, KF, Nh, hu, hz', ht, if_true, hbd, Option.map_some, Nat.zero_mul, Nat.add_zero, Nat.sub_zero, AG, hyl]
   ·cases hl
  ·cases hs
 ·cases hs
end
end Go.Av
end
/-
  AV: great arrays: functions of their places.
-/
section
namespace Go.Av
set_option linter.unusedVariables false
set_option linter.unusedSimpArgs false
section
variable {α : Type} {g : Gd} {h : AH} {L F : List Ck}
def Ej (n : Nat) (e : α → AB) (X : Nat → α) : List AB := (List.range n).map fun i => e (X i)
def Qw : Nat → Int := fun _ => 0
def PA (X : Nat → α) (i : Nat) (y : α) : Nat → α := fun j => bif Nat.beq j i then y else X j
def SW (n : Nat) (X : Nat → α) (i : Int) : Option α := if 0 ≤ i ∧ i.toNat < n then some (X i.toNat) else none
theorem L9 {n : Nat} {X : Nat → α} {i : Int} {x : α} (hx : SW n X i = some x) : 0 ≤ i ∧ i.toNat < n ∧ X i.toNat = x := by
 unfold SW at hx
 split at hx
 ·rename_i hc; exact ⟨hc.1, hc.2, Option.some.inj hx⟩
 ·cases hx
theorem J2 (n : Nat) (e : α → AB) (X : Nat → α) : (Ej n e X).length = n := by simp [Ej]
theorem Oq (X : Nat → α) (i : Nat) (y : α) : PA X i y i = y := by
 unfold PA
 rw [show Nat.beq i i = true from Nat.beq_refl i]; rfl
theorem SA (X : Nat → α) {i j : Nat} (y : α) (h : j ≠ i) : PA X i y j = X j := by
 unfold PA
 cases hb : Nat.beq j i with
 | true => exact absurd (Nat.eq_of_beq_eq_true hb) h
 | false => rfl
theorem Uw (n : Nat) (e : α → AB) (X : Nat → α) (i : Nat) (y : α) : (Ej n e X).set i (e y) = Ej n e (PA X i y) := by
 unfold Ej
 refine List.ext_getElem? fun j => ?_
 rw [List.getElem?_set]
 simp only [List.length_map, List.length_range, List.getElem?_map]
 by_cases hj : i = j
 ·subst hj
  by_cases hn : i < n
  ·simp [hn, Oq]
  ·simp [hn]
 ·by_cases hn : j < n
  ·simp [hj, hn, SA X y (Ne.symm hj)]
  ·simp [hj, hn]
theorem S9 {n : Nat} (e : α → AB) {X : Nat → α} (r : List AB) {i : Int} {x : α} (hx : SW n X i = some x) : ∃ tl, (Ej n e X ++ r).drop (i.toNat * 1) = [e x] ++ tl := by
 obtain ⟨h1, h2, h3⟩ := L9 hx
 rw [Nat.mul_one]
 have hl : i.toNat < (Ej n e X ++ r).length := by rw [List.length_append, J2]; omega
 refine ⟨(Ej n e X ++ r).drop (i.toNat + 1), ?_⟩
 rw [List.drop_eq_getElem_cons hl, List.getElem_append_left (by rw [J2]; exact h2)]
 simp [Ej, h3]
theorem Um {n : Nat} {X : Nat → α} {i : Int} {x : α} (hx : SW n X i = some x) (a : Nat × Nat) (z : Nat) : UW a n z i = some (a.1, a.2 + i.toNat * z) := by
 obtain ⟨h1, h2, _⟩ := L9 hx
 unfold UW
 rw [if_pos ⟨h1, by omega⟩]
theorem HH.YK (a : HH g h L F) (k : Nat) {id n : Nat} {gr : Option TypeId} (e : α → AB) {X : Nat → α} (pre post : List AB) {off : Nat} (hk : L[k]? = some (.obj id (.cells gr 2 (pre ++ (Ej n e X ++ post))))) (hp : pre.length = off) {i : Int} {x : α} (y : α) (hx : SW n X i = some x) (h1 : (e y).one = true) :
  ∃ h', Av.st g h (id, off + i.toNat * 1) [e y] = some h' ∧ HH g h' (L.set k (.obj id (.cells gr 2 (pre ++ (Ej n e (PA X i.toNat y) ++ post))))) F := by
 obtain ⟨h2, h3, h4⟩ := L9 hx
 refine a.st k hk (o := off + i.toNat * 1) (by simp [J2]; omega) (by simpa using h1) ?_
 rw [← hp, Nat.mul_one, Mr _ _ _ _ _ (by rw [J2]; exact h3), Uw]
theorem QU (k : IntKind) (X : Nat → Int) (n : Nat) (r : List AB) : H2 (G2 g) (Ej n (AB.int k) X ++ r) h = (H2 (G2 g) r h).map fun q => (Ej n (AB.int k) X ++ q.1, q.2) := by
 unfold Ej
 generalize List.range n = l
 induction l with
 | nil => simp
 | cons i l ih =>
  have e : H2 (G2 g) ((AB.int k (X i) :: l.map fun i => AB.int k (X i)) ++ r) h = (H2 (G2 g) ((l.map fun i => AB.int k (X i)) ++ r) h).map fun q : List AB × AH => (AB.int k (X i) :: q.1, q.2) := rfl
  rw [List.map_cons, e, ih, Option.map_map]
  rfl
theorem Qa (v : AB) (r : List AB) : H2 (G2 g) ([v] ++ r) h = H2 (G2 g) (v :: r) h := rfl
end
section
variable {C : IJ} {S : Self} {g : Gd} {h : AH} {fr : Fr} {op : Op}
def TN (P : Program) (fr : Fr) : Op → Option (List AB × Nat × Nat × Int)
 | .indexAddr t x i =>
  match P.underlying t, ev fr x, ev fr i with
  | some (.array n e), .Aq cs, .int _ i => (Cx P e).map fun z => (cs, n, z, i)
  | _, _, _ => none
 | _ => none
theorem Vu {α : Type} {cs ds : List AB} {n z : Nat} {i : Int} {X : Nat → α} {x : α} (hs : TN C.P fr op = some (cs, n, z, i)) (hx : SW n X i = some x) (hd : cs.drop (i.toNat * z) = ds) : Bq C S g h fr op = some (.Aq ds, h) := by
 obtain ⟨h1, h2, _⟩ := L9 hx
 unfold TN at hs
 split at hs
 ·split at hs
  ·rename_i hu hv hi
   simp only [Option.map_eq_some_iff, Prod.mk.injEq] at hs
   obtain ⟨m, h3, e1, e2, e3, e4⟩ := hs
   subst e1 e2 e3 e4
   simp [Bq, Hy, BS, IX, GM, hu, hv, hi, h3, hd]
   first | done | (refine ⟨?_, ?_⟩ <;> omega) | omega
  ·cases hs
 ·cases hs
end
end Go.Av
end
