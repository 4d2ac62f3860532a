/-
 A part.
-/
import Derived.Test.YtlljeoogceblmaaGreatDoorAvTy
namespace Go.Av
set_option linter.unusedVariables false
set_option linter.unusedSimpArgs false
def TV (P : Program) (fr : Fr) : Op → Option (Option (Nat × Nat) × Nat × Nat × Option AB × Option AB)
 | .slice t x lo hi none =>
  match P.underlying t, ev fr x with
  | some (.slice e), .slice r n => (CQ P e).map fun z => (r, n, z, lo.map (ev fr), hi.map (ev fr))
  | _, _ => none
 | _ => none
section
variable {α : Type} {e : α → List AB} {z : Nat} {g : Gd} {h : AF} {L F : List Ck}
theorem HH.Zu (a : HH g h L F) (k : Nat) {r : Option Nat} {t : TypeId} {xs : List α} (hk : L[k]? = some (.AQ r t (AQ e xs))) : HH g h (L.set k (.AQ r t (AQ e (xs ++ [])))) F := by
 rw [List.append_nil, HG hk, ← FJ hk]; exact a
theorem HH.Yo (a : HH g h L F) (k : Nat) {r : Option Nat} {t : TypeId} {xs tl ys : List α} {u : Int} (hk : L[k]? = some (.AQ r t (AQ e (xs ++ tl)))) (B : Kd xs none (some u) = some ys) : ∃ tl', HH g h (L.set k (.AQ r t (AQ e (ys ++ tl')))) F := by
 refine ⟨xs.drop u.toNat ++ tl, ?_⟩
 unfold Kd RD at B
 simp only at B
 split at B
 ·simp only [Option.map_some, List.drop_zero, Nat.sub_zero, Option.some.injEq] at B
  rw [← B, ← List.append_assoc, List.take_append_drop, HG hk, ← FJ hk]; exact a
 ·cases B
theorem HH.Z2 (E : Jh e z) (J : z ≠ 0) (a : HH g h L F) (k : Nat) {r : Option Nat} {t : TypeId} {xs tl : List α} (hk : L[k]? = some (.AQ r t (AQ e (xs ++ tl)))) {i : Int} {x : α} (hi : Ii xs i = some x) :
  ∃ id, r = some id ∧ h.get id = some (.cells (some t) 2 (AQ e (xs ++ tl))) ∧ XV (CF r xs.length) z i = some (id, i.toNat * z) ∧ (xs ++ tl)[i.toNat]? = some x := by
 unfold Ii at hi
 split at hi
 ·rename_i h0
  have hlt := (List.getElem?_eq_some_iff.1 hi).1
  have hi2 : (xs ++ tl)[i.toNat]? = some x := by rw [List.getElem?_append_left hlt]; exact hi
  cases r with
  | none =>
   have D : AQ e (xs ++ tl) = [] := a.mem hk
   exfalso
   have h1 := E.Gb (xs ++ tl)
   rw [D] at h1
   have h2 : (xs ++ tl).length * z = 0 := by simpa using h1.symm
   rcases Nat.mul_eq_zero.1 h2 with h | h
   ·rw [List.length_append] at h; omega
   ·exact J h
  | some id =>
   refine ⟨id, rfl, a.mem hk, ?_, hi2⟩
   simp only [CF, Option.map_some, XV]
   rw [Yg, if_pos ⟨h0, by omega⟩]
   simp
 ·cases hi
theorem RY (a : HH g h L F) (k : Nat) {r : Option Nat} {e : TypeId} {cs tl : List AB} (hk : L[k]? = some (.AQ r e (cs ++ tl))) {n z : Nat} (D : cs.length = n * z) (J : z ≠ 0) : Cg h z n (AP r n) = some cs := by
 have I := a.mem hk
 unfold AP Cg
 cases r with
 | none =>
  have : cs ++ tl = [] := I
  have hcs : cs = [] := (List.append_eq_nil_iff.1 this).1
  subst hcs
  have h0 : n = 0 := by
   have : n * z = 0 := by simpa using D.symm
   rcases Nat.mul_eq_zero.1 this with h | h
   ·exact h
   ·exact absurd h J
  subst h0
  simp
 | some id =>
  have H : h.get id = some (.cells (some e) 2 (cs ++ tl)) := I
  simp only [Option.map_some]
  by_cases h0 : n = 0
  ·subst h0
   rw [if_pos rfl]
   have : cs = [] := List.eq_nil_of_length_eq_zero (by simpa using D)
   rw [this]
  ·rw [if_neg h0]
   unfold CP
   simp only [H]
   rw [if_pos ⟨by simp, by rw [List.length_append]; omega⟩, List.drop_zero, ← D, List.take_left]
theorem HH.Xk (a : HH g h L F) (k : Nat) {r : Option Nat} {e : TypeId} {cs tl new new' : List AB} {z bytes n m : Nat} {x : AB} (hk : L[k]? = some (.AQ r e (cs ++ tl))) (D : cs.length = n * z) (J : z ≠ 0) (O : Cg h z m x = some new) (hc : new.map Em = new') (hm : new'.length = m * z) (K : m ≠ 0)
  (G : n + m ≤ 1099511627776 ∧ (n + m) * bytes ≤ 1099511627776) (h1 : cs.all AB.one = true) (h2 : new'.all AB.one = true) :
  ∃ r' h', Av.app e z bytes g h (CF r n) m x = some (CF r' (n + m), h') ∧ HH g h' (L.set k (.AQ r' e (cs ++ new'))) F := by
 have hfo : Cg h z n (AP r n) = some cs := RY a k hk D J
 unfold Av.app
 rw [if_neg K, if_pos (show (CF r n).n + m ≤ 1099511627776 ∧ ((CF r n).n + m) * bytes ≤ 1099511627776 from G)]
 simp only [CF, O, Option.map_some, hc]
 rw [show Cg h z n (.slice (r.map fun i => (i, 0)) n) = some cs from hfo]
 simp only
 rw [if_pos (by rw [List.all_append, h1, h2]; rfl)]
 cases r with
 | none =>
  refine ⟨some h.size, _, rfl, ?_⟩
  exact a.Mz hk (by simp) (fun i hi _ => h.B1 _ hi) (h.CB _) (fun i hi => by simp [Ck.ids] at hi; omega) (fun i hi => by simp [Ck.ids] at hi; rw [hi]; exact a.new)
 | some id =>
  have H : h.get id = some (.cells (some e) 2 (cs ++ tl)) := a.mem hk
  have hid := h.BV H
  simp only [Option.map_some, H]
  rw [if_pos ⟨a.Jf hk (by simp [Ck.ids]), trivial⟩]
  refine ⟨some h.size, _, rfl, ?_⟩
  refine a.Mz hk (by simp) (fun i hi D => ?_) ?_ (fun i hi => by simp [Ck.ids] at hi; omega) (fun i hi => by simp [Ck.ids] at hi; rw [hi]; exact a.new)
  ·rw [AF.B1 _ _ (by simpa using hi)]
   exact h.Bc _ hid (by simpa [Ck.ids] using D)
  ·have := AF.CB (h.set id (.cells (some e) 0 [])) (.cells (some e) 2 (cs ++ new'))
   exact this
theorem HH.Xo (E : Jh e z) (J : z ≠ 0) (a : HH g h L F) (k : Nat) {r : Option Nat} {t : TypeId} {xs tl ys : List α} {new : List AB} {bytes m : Nat} {x : AB} (hk : L[k]? = some (.AQ r t (AQ e (xs ++ tl)))) (O : Cg h z m x = some new) (hc : new.map Em = AQ e ys) (hm : m = ys.length) (G : Hs bytes (xs.length + m) = true) :
  ∃ r' tl' h', Av.app t z bytes g h (CF r xs.length) m x = some (CF r' (xs ++ ys).length, h') ∧ HH g h' (L.set k (.AQ r' t (AQ e ((xs ++ ys) ++ tl')))) F := by
 subst hm
 have e0 : AQ e (xs ++ tl) = AQ e xs ++ AQ e tl := by simp [AQ]
 cases ys with
 | nil =>
  refine ⟨r, tl, h, ?_, ?_⟩
  ·simp [Av.app, CF]
  ·rw [List.append_nil, HG hk, ← FJ hk]; exact a
 | cons y ys =>
  obtain ⟨r', h', h1, h2⟩ := a.Xk k (by rw [hk, e0]) (E.Gb xs) J O hc (E.Gb (y :: ys)) (by simp) (of_decide_eq_true G) (E.VQ xs) (E.VQ (y :: ys))
  refine ⟨r', [], h', by rw [h1, List.length_append], ?_⟩
  have : AQ e ((xs ++ (y :: ys)) ++ []) = AQ e xs ++ AQ e (y :: ys) := by simp [AQ]
  rw [this]; exact h2
theorem Wx {C : E8} {S : Self} {fr : Fr} {op : Op} (E : Jh e z) (J : z ≠ 0) (a : HH g h L F) (k : Nat) {r : Option Nat} {t : TypeId} {xs tl ys : List α} {k' : IntKind} {u : Int} (hk : L[k]? = some (.AQ r t (AQ e (xs ++ tl))))
  (B : TV C.P fr op = some ((CF r xs.length).r, xs.length, z, none, some (.int k' u))) (ht : CQ C.P t = some z) (N : Kd xs none (some u) = some ys) : BO C S g h fr op = some (AP r ys.length, h) := by
 unfold TV at B
 split at B
 ·rename_i t0 x lo hi
  split at B
  ·rename_i el r0 n hu O
   obtain ⟨z', Q, he⟩ := Option.map_eq_some_iff.1 B
   simp only [Prod.mk.injEq] at he
   obtain ⟨rfl, rfl, rfl, e1, e2⟩ := he
   unfold Kd RD at N
   simp only at N
   split at N
   ·rename_i G
    simp only [Option.map_some, List.drop_zero, Nat.sub_zero, Option.some.injEq] at N
    have hyl : ys.length = u.toNat := by rw [← N, List.length_take]; omega
    have hc : BA C.P (.slice t0 x lo hi none) = 1 := by simp only [BA, hu]
    have R : Dg xs.length (lo.map (ev fr)) (hi.map (ev fr)) = some (0, u.toNat) := by rw [e1, e2]; simp only [Dg]; rw [if_pos G]
    show Gp C.P C.Ca g h fr (.slice t0 x lo hi none) = _
    cases r with
    | none =>
     have D : AQ e (xs ++ tl) = [] := a.mem hk
     have h1 := E.Gb (xs ++ tl)
     rw [D] at h1
     have h2 : (xs ++ tl).length * z' = 0 := by simpa using h1.symm
     have h3 : xs = [] := by
      rcases Nat.mul_eq_zero.1 h2 with h | h
      ·rw [List.length_append] at h; exact List.eq_nil_of_length_eq_zero (by omega)
      ·exact absurd h J
     subst h3
     have hys : ys = [] := by rw [← N]; simp
     subst hys
     have M : ev fr x = .slice none 0 := by rw [O]; rfl
     simp only [Gp, hc, Cq, M, Dd, Ih, JM, hu, Q, Option.bind_some]
     rw [show Dg 0 (lo.map (ev fr)) (hi.map (ev fr)) = some (0, u.toNat) from R]
     rfl
    | some id =>
     have H : h.get id = some (.cells (some t) 2 (AQ e (xs ++ tl))) := a.mem hk
     have M : ev fr x = .slice (some (id, 0)) xs.length := by rw [O]; rfl
     simp only [Gp, hc, Cq, M, Dd, H, Ih, JM, hu, Q, ht, if_true, R, Option.map_some, Nat.zero_mul, Nat.add_zero, Nat.sub_zero, AP, hyl]
   ·cases N
  ·cases B
 ·cases B
theorem W1 {C : E8} {S : Self} {fr : Fr} {op : Op} {h1 : AF} {t : TypeId} {bytes : Nat} {n : Int} {x : α} (B : TX C.P fr op = some (t, bytes, e x, 0, n)) (G : TH bytes n = true) (hh : some (h.push (.cells (some t) 2 (AQ e ([] ++ List.replicate n.toNat x)))) = some h1) :
  BO C S g h fr op = some (AP (some h.size) ([] : List α).length, h1) := by
 have G := of_decide_eq_true G
 exact WB (S := S) (g := g) B (cs := AQ e ([] ++ List.replicate n.toNat x)) (by unfold Xd; rw [if_pos ⟨Int.le_refl _, G.1, G.2.1, G.2.2⟩, J4]; rfl) hh
theorem Un {C : E8} {S : Self} {fr : Fr} {op : Op} {xs tl : List UInt8} (a : HH g h L F) (k : Nat) {r : Option Nat} {t : TypeId} (hk : L[k]? = some (.AQ r t (AQ eY (xs ++ tl)))) (B : Q3 C.P fr op = some ((CF r xs.length).r, xs.length)) : BO C S g h fr op = some (.str xs, h) := by
 refine Tv (s := CF r xs.length) B ?_
 have I := a.mem hk
 unfold Yb CF
 cases r with
 | none =>
  have : AQ eY (xs ++ tl) = [] := I
  have h1 := Df.Gb (xs ++ tl)
  rw [this] at h1
  have : xs ++ tl = [] := List.eq_nil_of_length_eq_zero (by simpa using h1.symm)
  rw [(List.append_eq_nil_iff.1 this).1]
  rfl
 | some id =>
  have H : h.get id = some (.cells (some t) 2 (AQ eY (xs ++ tl))) := I
  simp only [Option.map_some]
  by_cases h0 : xs.length = 0
  ·have : xs = [] := List.eq_nil_of_length_eq_zero h0
   subst this
   rw [if_pos h0, H]
   rfl
  ·rw [if_neg h0]
   unfold CP
   simp only [H]
   have h1 := Df.Gb (xs ++ tl)
   have e0 : AQ eY (xs ++ tl) = AQ eY xs ++ AQ eY tl := by simp [AQ]
   rw [if_pos ⟨by simp, by rw [h1, List.length_append]; omega⟩, List.drop_zero, e0, List.take_left' (by simpa using Df.Gb xs)]
   exact I8 xs
theorem HH.WS (a : HH g h L F) (k k2 : Nat) {id id2 n m bytes : Nat} {e : TypeId} {cs ds : List AB} (hk : L[k]? = some (.obj id (.cells (some e) 2 cs))) (hk2 : L[k2]? = some (.obj id2 (.cells (some e) 2 ds)))
  (D : cs.length = n) (hm : ds.length = m) (K : m ≠ 0) (hc : ds.map Em = ds) (G : Hs bytes (n + m) = true) (h1 : cs.all AB.one = true) (h2 : ds.all AB.one = true) :
  ∃ id' h', Av.app e 1 bytes g h ⟨some (id, 0), n⟩ m (.slice (some (id2, 0)) m) = some (⟨some (id', 0), n + m⟩, h') ∧ HH g h' (L.set k (.obj id' (.cells (some e) 2 (cs ++ ds)))) F := by
 have H : h.get id = some (.cells (some e) 2 cs) := a.mem hk
 have hg2 : h.get id2 = some (.cells (some e) 2 ds) := a.mem hk2
 have hid := h.BV H
 refine ⟨h.size, (h.set id (.cells (some e) 0 [])).push (.cells (some e) 2 (cs ++ ds)), ?_, ?_⟩
 ·unfold Av.app
  have G := of_decide_eq_true G
  rw [if_neg K, if_pos (show n + m ≤ 1099511627776 ∧ (n + m) * bytes ≤ 1099511627776 from G)]
  have f2 : Cg h 1 m (.slice (some (id2, 0)) m) = some ds := by
   unfold Cg
   simp only
   rw [if_neg K]
   unfold CP
   simp only [hg2]
   rw [if_pos ⟨by simp, by omega⟩, List.drop_zero, Nat.mul_one, ← hm, List.take_length]
  have f1 : Cg h 1 n (.slice (some (id, 0)) n) = some cs := by
   unfold Cg
   simp only
   by_cases h0 : n = 0
   ·rw [if_pos h0]; subst h0; rw [List.eq_nil_of_length_eq_zero D]
   ·rw [if_neg h0]
    unfold CP
    simp only [H]
    rw [if_pos ⟨by simp, by omega⟩, List.drop_zero, Nat.mul_one, ← D, List.take_length]
  simp only [f2, Option.map_some, hc, f1]
  rw [if_pos (by rw [List.all_append, h1, h2]; rfl)]
  simp only [H]
  rw [if_pos ⟨a.Jf hk (by simp [Ck.ids]), trivial⟩]
 ·refine a.Mz hk (by simp) (fun i hi D => ?_) ?_ (fun i hi => by simp [Ck.ids] at hi; omega) (fun i hi => by simp [Ck.ids] at hi; rw [hi]; exact a.new)
  ·rw [AF.B1 _ _ (by simpa using hi)]
   exact h.Bc _ hid (by simpa [Ck.ids] using D)
  ·have := AF.CB (h.set id (.cells (some e) 0 [])) (.cells (some e) 2 (cs ++ ds))
   simp only [AF.size_set] at this
   exact this
end
end Go.Av
