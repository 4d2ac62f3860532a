/-
 A part.
-/
import Derived.Test.YtdbkpibbjnhmgaaDoorAvMap
import Derived.Test.YtdbkpibbjnhmgaaDoorAvLib
namespace Go.Av
open Go.RowKit
set_option linter.unusedVariables false
set_option linter.unusedSimpArgs false
section
variable {α : Type}
structure Sr (α : Type) where
 pre : α → List AA
 kd : α → List (List UInt8 × Nat)
abbrev Hs := List (Nat × Nat)
def BM (I : Hs) (j : Nat) : Nat := (I.getD j (0, 0)).1
def C1 (I : Hs) (j : Nat) : Nat := (I.getD j (0, 0)).2
theorem Ix {I J : Hs} {j : Nat} (h : j < I.length) : BM (I ++ J) j = BM I j := by unfold BM; rw [List.getD_eq_getElem?_getD, List.getD_eq_getElem?_getD, List.getElem?_append_left h]
theorem O9 {I : Hs} {p : Nat × Nat} {n : Nat} (h : I.length = n) : BM (I ++ [p]) n = p.1 := by
 subst h
 unfold BM
 rw [List.getD_eq_getElem?_getD, List.getElem?_append_right (Nat.le_refl _)]
 simp
def LR (N : Sr α) (a : α) (mid : Nat) : Am := .cells none 2 (N.pre a ++ [.map (some mid)])
def IV (N : Sr α) (I : Hs) (a : α) : Am := .map 2 (Et (fun k : List UInt8 => .str k) (fun v : Nat => .ptr (some (BM I v, 0))) (N.kd a))
def LM (N : Sr α) (I : Hs) (p : Nat × Nat) (a : α) : List (Nat × Am) := [(p.1, LR N a p.2), (p.2, IV N I a)]
def UA (N : Sr α) (A : List α) : Prop := ∀ a ∈ A, ∀ q ∈ N.kd a, q.2 < A.length
def PS (N : Sr α) (I J : Hs) (A : List α) : List (Nat × Am) := (J.zip A).flatMap fun q => LM N I q.1 q.2
def EM (N : Sr α) (I : Hs) (A : List α) : Ck := .many (PS N I I A) (I.length = A.length ∧ UA N A)
variable {N : Sr α} {I : Hs} {A : List α} {g : Gd} {h h' : AB} {P F L : List Ck}
theorem Tl {I J : Hs} {A : List α} {j : Nat} {p : Nat × Nat} {x : α} (hp : J[j]? = some p) (hx : A[j]? = some x) : (p.1, LR N x p.2) ∈ PS N I J A ∧ (p.2, IV N I x) ∈ PS N I J A := by
 have hz : (p, x) ∈ J.zip A := List.mem_of_getElem? (by rw [List.getElem?_zip_eq_some]; exact ⟨hp, hx⟩)
 unfold PS
 exact ⟨List.mem_flatMap.2 ⟨_, hz, by unfold LM; simp⟩, List.mem_flatMap.2 ⟨_, hz, by unfold LM; simp⟩⟩
theorem Pc (hI : I.length = A.length) {j : Nat} {x : α} (hx : A[j]? = some x) : I[j]? = some (BM I j, C1 I j) := by
 have hl : j < I.length := by rw [hI]; exact (List.getElem?_eq_some_iff.1 hx).1
 unfold BM C1
 rw [List.getElem?_eq_getElem hl, List.getD_eq_getElem?_getD, List.getElem?_eq_getElem hl]
 rfl
theorem JT (k : (EM N I A).ok h) {j : Nat} {x : α} (hx : A[j]? = some x) : h.get (BM I j) = some (LR N x (C1 I j)) ∧ h.get (C1 I j) = some (IV N I x) := by
 obtain ⟨⟨k1, k2⟩, k3, k4⟩ := k
 obtain ⟨a, b⟩ := Tl (N := N) (I := I) (Pc k1 hx) hx
 exact ⟨k4 _ a, k4 _ b⟩
theorem Ip (k : (EM N I A).ok h) {j : Nat} {x : α} (hx : A[j]? = some x) {o : Nat} {v : AA} (hv : (N.pre x ++ [.map (some (C1 I j))])[o]? = some v) : Oh h (BM I j, o) = some v := by
 have hl := (List.getElem?_eq_some_iff.1 hv).1
 unfold Av.Oh Bo
 simp only [(JT k hx).1, LR]
 rw [if_pos ⟨by simp, by omega⟩]
 have e := (List.getElem?_eq_some_iff.1 hv).2
 rw [List.drop_eq_getElem_cons hl, e]
 rfl
theorem Ik {P : Program} {t kt et : TypeId} (k : (EM N I A).ok h) {j : Nat} {x : α} (hx : A[j]? = some x) (hS : P.underlying kt = some .string) (hu : P.underlying t = some (.map kt et)) {zv : AA} (hz : D6 P et = some zv) {s : List UInt8} {v : Nat} (hf : Cu (N.kd x) s = some v) :
  TG P h t (some (C1 I j)) (.str s) = some (.ptr (some (BM I v, 0)), true) := by
 have E := UD hS
 unfold TG
 rw [hu]
 simp only [E.ok, if_true, Ur, (JT k hx).2, IV]
 rw [if_pos (by decide)]
 dsimp only
 rcases GU (ev := fun v : Nat => AA.ptr (some (BM I v, 0))) E s v (N.kd x) 0 with ⟨h1, h2, _, _⟩ | ⟨j, w, h1, h2, _, _, _⟩
 ·rw [h2] at hf; cases hf
 ·rw [h2] at hf; cases hf; rw [h1]
theorem Ir {P : Program} {t kt et : TypeId} (k : (EM N I A).ok h) {j : Nat} {x : α} (hx : A[j]? = some x) (hS : P.underlying kt = some .string) (hu : P.underlying t = some (.map kt et)) {zv : AA} (hz : D6 P et = some zv) {s : List UInt8} (hf : Cu (N.kd x) s = none) :
  TG P h t (some (C1 I j)) (.str s) = some (zv, false) := by
 have E := UD hS
 unfold TG
 rw [hu]
 simp only [E.ok, if_true, Ur, (JT k hx).2, IV]
 rw [if_pos (by decide)]
 dsimp only
 rcases GU (ev := fun v : Nat => AA.ptr (some (BM I v, 0))) E s 0 (N.kd x) 0 with ⟨h1, h2, _, _⟩ | ⟨j, w, h1, h2, _, _, _⟩
 ·rw [h1]; simp [hz]
 ·rw [h2] at hf; cases hf
theorem Nt : ∀ {m : List (List UInt8 × Nat)} {k : List UInt8} {v : Nat} {q : List UInt8 × Nat}, q ∈ Dm m k v → q = (k, v) ∨ q ∈ m
 | [], k, v, q, h => by unfold Dm at h; simp at h; exact .inl h
 | (k', v') :: r, k, v, q, h => by
  unfold Dm at h
  split at h
  ·rcases List.mem_cons.1 h with h | h
   ·exact .inl h
   ·exact .inr (List.mem_cons_of_mem _ h)
  ·rcases List.mem_cons.1 h with h | h
   ·exact .inr (by rw [h]; exact List.mem_cons_self ..)
   ·rcases Nt h with h | h
    ·exact .inl h
    ·exact .inr (List.mem_cons_of_mem _ h)
theorem SW {C : EB} {km : UX} {l : List (Nat × Nat × Nat × Nat)} {f it t b : Nat} (a : HH g h L F) (k : (EM N I A).ok h) {j : Nat} {x : α} (hx : A[j]? = some x) (hk : C.kind f = 3) (hC : C.ext = Mj C.P km l) (hl : Gz l f = some (2, it, t)) (k1 : Nat) (h1 : L[k1]? = some (.obj b (.cells none 2 [.map (some (C1 I j))])))
  (hb : H7 ((N.kd x).map Prod.fst) = true) :
  ∃ r h', B5 C g h f [.func (.func it) [] [.ptr (some (b, 0))]] (AK r (CS ((N.kd x).map Prod.fst)).length) h' ∧ HH g h' (.AL r t (AL eS (CS ((N.kd x).map Prod.fst))) :: L) F := by
 have hlen : (CS ((N.kd x).map Prod.fst)).length = ((N.kd x).map Prod.fst).length := (EX _).length_eq
 have key : GC it t h [.func (.func it) [] [.ptr (some (b, 0))]] = some (KF t h ((N.kd x).map Prod.fst)) := by
  unfold GC
  simp only [if_true, KG, a.get k1 h1, (JT k hx).2, IV, I9, hb]
 rw [IL]
 generalize hks : (N.kd x).map Prod.fst = ks at *
 cases ks with
 | nil => exact ⟨none, h, Lv hk hC hl (key.trans rfl), a.Sn t⟩
 | cons x ks => exact ⟨some h.size, _, Lv hk hC hl (h' := h.push (.cells (some t) 2 ((CS (x :: ks)).map .str))) (key.trans (by rw [hlen]; rfl)), a.Rx t _⟩
theorem TH (k : (EM N I A).ok h) {i j : Nat} {x y : α} (hi : A[i]? = some x) (hj : A[j]? = some y) (hp : ∀ a, N.pre a ≠ []) {P : Program} {t e : TypeId} {z : Nat} (hu : P.underlying t = some (.pointer e)) (hz : BR P e = some (z + 1)) : Gm P h t (BM I i) 0 (BM I j) 0 = some (Nat.beq i j) := by
 have gi := (JT k hi).1
 have gj := (JT k hj).1
 obtain ⟨a, l, ea⟩ : ∃ a l, N.pre x ++ [AA.map (some (C1 I i))] = a :: l := by
  cases hx : N.pre x with
  | nil => exact absurd hx (hp x)
  | cons a l => exact ⟨a, _, rfl⟩
 obtain ⟨b, r, eb⟩ : ∃ b r, N.pre y ++ [AA.map (some (C1 I j))] = b :: r := by
  cases hy : N.pre y with
  | nil => exact absurd hy (hp y)
  | cons a l => exact ⟨a, _, rfl⟩
 unfold Gm
 simp only [hu, hz, gi, gj, LR, ea, eb, Nat.beq_refl, Bool.and_true, Option.some.injEq]
 by_cases hij : i = j
 ·subst hij; simp [Nat.beq_refl]
 ·have h1 : Nat.beq i j = false := by
   cases hb : Nat.beq i j with
   | false => rfl
   | true => exact absurd (Nat.eq_of_beq_eq_true hb) hij
  rw [h1]
  cases hb : Nat.beq (BM I i) (BM I j) with
  | false => rfl
  | true =>
   exfalso
   have hid := Nat.eq_of_beq_eq_true hb
   obtain ⟨⟨k1, _⟩, k3, _⟩ := k
   have ei := Pc k1 hi
   have ej := Pc k1 hj
   have hil := (List.getElem?_eq_some_iff.1 hi).1
   have hjl := (List.getElem?_eq_some_iff.1 hj).1
   have hmap : ∀ (J : Hs) (B : List α), J.length = B.length → (PS N I J B).map Prod.fst = J.flatMap fun p => [p.1, p.2] := by
    intro J
    induction J with
    | nil => intro B hB; rfl
    | cons p J ih =>
     intro B hB
     cases B with
     | nil => cases hB
     | cons b B =>
      unfold PS at ih ⊢
      simp only [List.zip_cons_cons, List.flatMap_cons, List.map_append, LM, List.map_cons, List.map_nil]
      have ih' := ih B (by simpa using hB)
      simp only [LM] at ih'
      rw [ih']
   rw [hmap I A k1] at k3
   have : ∀ (J : Hs) (i j : Nat) (p q : Nat × Nat), (J.flatMap fun p => [p.1, p.2]).Nodup → J[i]? = some p → J[j]? = some q → p.1 = q.1 → i = j := by
    intro J
    induction J with
    | nil => intro i j p q _ h; simp at h
    | cons c J ih =>
     intro i j p q hn h1 h2 he
     rw [List.flatMap_cons, List.nodup_append] at hn
     obtain ⟨_, n2, n3⟩ := hn
     have mem : ∀ (i : Nat) (p : Nat × Nat), J[i]? = some p → p.1 ∈ J.flatMap fun p => [p.1, p.2] := fun i p h => List.mem_flatMap.2 ⟨p, List.mem_of_getElem? h, by simp⟩
     cases i with
     | zero =>
      cases j with
      | zero => rfl
      | succ j =>
       simp at h1 h2
       subst h1
       exact absurd he (n3 c.1 (by simp) q.1 (mem j q h2))
     | succ i =>
      cases j with
      | zero =>
       simp at h1 h2
       subst h2
       exact absurd he.symm (n3 c.1 (by simp) p.1 (mem i p h1))
      | succ j =>
       simp at h1 h2
       rw [ih i j p q n2 h1 h2 he]
   exact hij (this I i j _ _ k3 ei ej hid)
theorem JE {os : List (Nat × Am)} {p : Prop} (hn : (os.map Prod.fst).Nodup) : (Ck.many os p).ids = os.map Prod.fst := if_pos hn
theorem KR {k : Nat} {c : Ck} (hk : L[k]? = some c) (d : Ck) : (AQ (L.set k d)).Perm (d.ids ++ AQ (L.take k ++ L.drop (k + 1))) := by
 rw [EV hk]
 simp only [AR]
 have : AQ [d] = d.ids := by simp [AQ]
 rw [this]
 exact List.perm_append_comm_assoc _ _ _
theorem PF {k : Nat} {c : Ck} (hk : L[k]? = some c) : (AQ L).Perm (c.ids ++ AQ (L.take k ++ L.drop (k + 1))) := by
 have e : L.set k c = L := by rw [EV hk]; exact (Di hk).symm
 have := KR hk c
 rwa [e] at this
theorem Kp {k : Nat} {c d x : Ck} (hk : L[k]? = some c) (hx : x ∈ L.set k d) : x = d ∨ x ∈ L := by
 rcases List.mem_or_eq_of_mem_set hx with h | h
 ·exact .inr h
 ·exact .inl h
theorem HH.U2 {os os' : List (Nat × Am)} {p : Prop} {o1 o2 : Nat × Am} (a : HH g h L F) (k : Nat) (hk : L[k]? = some (.many os p)) (hp : os.Perm (o1 :: o2 :: os')) : HH g h (.obj o1.1 o1.2 :: .obj o2.1 o2.2 :: L.set k (.many os' True)) F := by
 obtain ⟨k1, k2, k3⟩ := a.mem hk
 have hn2 : ((o1 :: o2 :: os').map Prod.fst).Nodup := ((hp.map Prod.fst).nodup_iff).1 k2
 have hn' : (os'.map Prod.fst).Nodup := by
  simp only [List.map_cons, List.nodup_cons] at hn2
  exact hn2.2.2
 have hids : (AQ (.obj o1.1 o1.2 :: .obj o2.1 o2.2 :: L.set k (.many os' True))).Perm (AQ L) := by
  have e1 : AQ (.obj o1.1 o1.2 :: .obj o2.1 o2.2 :: L.set k (.many os' True)) = o1.1 :: o2.1 :: AQ (L.set k (.many os' True)) := rfl
  rw [e1]
  refine (((KR hk (.many os' True)).cons o2.1).cons o1.1).trans (List.Perm.trans ?_ (PF hk).symm)
  rw [JE hn', JE k2]
  have := (hp.map Prod.fst).symm.append_right (AQ (L.take k ++ L.drop (k + 1)))
  exact this
 refine ⟨fun c hc => ?_, ?_, fun i hi => a.may i (hids.mem_iff.1 hi), a.BZ, a.floor⟩
 ·simp only [List.cons_append, List.mem_cons, List.mem_append] at hc
  rcases hc with rfl | rfl | hc | hc
  ·exact k3 o1 (hp.mem_iff.2 (by simp))
  ·exact k3 o2 (hp.mem_iff.2 (by simp))
  ·rcases Kp hk hc with rfl | hc
   ·exact ⟨trivial, hn', fun q hq => k3 q (hp.mem_iff.2 (by simp [hq]))⟩
   ·exact a.ok c (List.mem_append.2 (.inl hc))
  ·exact a.ok c (List.mem_append.2 (.inr hc))
 ·rw [AR]
  have := a.nd
  rw [AR] at this
  exact ((hids.append_right (AQ F)).nodup_iff).2 this
theorem HH.Ol {os os' : List (Nat × Am)} {p q : Prop} {o1 o2 : Nat × Am} (a : HH g h (.obj o1.1 o1.2 :: .obj o2.1 o2.2 :: L) F) (k : Nat) (hk : L[k]? = some (.many os' q)) (hp : os.Perm (o1 :: o2 :: os')) (hP : p) : HH g h (L.set k (.many os p)) F := by
 have hk2 : (Ck.obj o1.1 o1.2 :: Ck.obj o2.1 o2.2 :: L)[k + 2]? = some (.many os' q) := hk
 obtain ⟨_, k2, k3⟩ := a.mem hk2
 have hnd : (AQ (.obj o1.1 o1.2 :: .obj o2.1 o2.2 :: L)).Nodup := by
  have := a.nd
  rw [AR, List.nodup_append] at this
  exact this.1
 have e1 : AQ (.obj o1.1 o1.2 :: .obj o2.1 o2.2 :: L) = o1.1 :: o2.1 :: AQ L := rfl
 have hpm : (o1.1 :: o2.1 :: AQ L).Perm (os.map Prod.fst ++ AQ (L.take k ++ L.drop (k + 1))) := by
  refine (((PF hk).cons o2.1).cons o1.1).trans ?_
  rw [JE k2]
  exact (hp.map Prod.fst).symm.append_right (AQ (L.take k ++ L.drop (k + 1)))
 have hn : (os.map Prod.fst).Nodup := by
  have := (hpm.nodup_iff).1 (e1 ▸ hnd)
  rw [List.nodup_append] at this
  exact this.1
 have hids : (AQ (L.set k (.many os p))).Perm (AQ (.obj o1.1 o1.2 :: .obj o2.1 o2.2 :: L)) := by
  refine (KR hk (.many os p)).trans ?_
  rw [JE hn, e1]
  exact hpm.symm
 refine ⟨fun c hc => ?_, ?_, fun i hi => a.may i (hids.mem_iff.1 hi), a.BZ, a.floor⟩
 ·simp only [List.mem_append] at hc
  rcases hc with hc | hc
  ·rcases Kp hk hc with rfl | hc
   ·refine ⟨hP, hn, fun r hr => ?_⟩
    have := hp.mem_iff.1 hr
    simp only [List.mem_cons] at this
    rcases this with rfl | rfl | hr
    ·exact a.ok (.obj r.1 r.2) (by simp)
    ·exact a.ok (.obj r.1 r.2) (by simp)
    ·exact k3 r hr
   ·exact a.ok c (by simp [hc])
  ·exact a.ok c (by simp [hc])
 ·rw [AR]
  have := a.nd
  rw [AR] at this
  exact ((hids.append_right (AQ F)).nodup_iff).2 this
theorem KW {β : Type} : ∀ {l : List β} {k : Nat} {x : β}, l[k]? = some x → l.Perm (x :: l.eraseIdx k)
 | [], k, x, h => by simp at h
 | y :: l, 0, x, h => by simp at h; subst h; exact List.Perm.refl _
 | y :: l, k + 1, x, h => ((KW (l := l) (k := k) (x := x) (by simpa using h)).cons y).trans (List.Perm.swap x y _)
theorem L0 {β γ : Type} : ∀ (I : List β) (A : List γ) (k : Nat) (y : γ), (I.zip (A.set k y)).eraseIdx k = (I.zip A).eraseIdx k
 | [], A, k, y => by simp
 | b :: I, [], k, y => by simp
 | b :: I, c :: A, 0, y => rfl
 | b :: I, c :: A, k + 1, y => by
  simp only [List.set_cons_succ, List.zip_cons_cons, List.eraseIdx_cons_succ]
  rw [L0 I A k y]
def SX (N : Sr α) (I : Hs) (A : List α) (k : Nat) : List (Nat × Am) := ((I.zip A).eraseIdx k).flatMap fun q => LM N I q.1 q.2
theorem NS (hI : I.length = A.length) {j : Nat} {x : α} (hx : A[j]? = some x) : (PS N I I A).Perm ((BM I j, LR N x (C1 I j)) :: (C1 I j, IV N I x) :: SX N I A j) := by
 unfold PS SX
 have hz : (I.zip A)[j]? = some ((BM I j, C1 I j), x) := by rw [List.getElem?_zip_eq_some]; exact ⟨Pc hI hx, hx⟩
 have := ((KW hz).flatMap_right fun q : (Nat × Nat) × α => LM N I q.1 q.2)
 rw [List.flatMap_cons] at this
 exact this
theorem HH.R3 (a : HH g h L F) (k : Nat) (hk : L[k]? = some (EM N I A)) {j : Nat} {x : α} (hx : A[j]? = some x) : HH g h (.obj (BM I j) (LR N x (C1 I j)) :: .obj (C1 I j) (IV N I x) :: L.set k (.many (SX N I A j) True)) F :=
 a.U2 k hk (NS (a.mem hk).1.1 hx)
theorem HH.PI {j : Nat} {x y : α} (a : HH g h (.obj (BM I j) (LR N y (C1 I j)) :: .obj (C1 I j) (IV N I y) :: L) F) (k : Nat) (hk : L[k]? = some (.many (SX N I A j) True)) (hI : I.length = A.length) (hx : A[j]? = some x) (hw : UA N (A.set j y)) : HH g h (L.set k (EM N I (A.set j y))) F := by
 have hx' : (A.set j y)[j]? = some y := List.getElem?_set_self (List.getElem?_eq_some_iff.1 hx).1
 have hp := NS (N := N) (I := I) (A := A.set j y) (by simpa using hI) hx'
 have e : SX N I (A.set j y) j = SX N I A j := by unfold SX; rw [L0]
 rw [e] at hp
 exact a.Ol k hk hp ⟨by simpa using hI, hw⟩
theorem UA.set (hw : UA N A) {j : Nat} {y : α} (hy : ∀ q ∈ N.kd y, q.2 < A.length) : UA N (A.set j y) := by
 intro b hb q hq
 rw [List.length_set]
 rcases List.mem_or_eq_of_mem_set hb with hb | rfl
 ·exact hw b hb q hq
 ·exact hy q hq
theorem HH.S0 (a : HH g h L F) (k : Nat) (hk : L[k]? = some (EM N I A)) {j : Nat} {x y : α} (hx : A[j]? = some x) (o : Nat) (v : AA) (hy : N.pre y = (N.pre x).set o v) (hkd : N.kd y = N.kd x) (ho : o < (N.pre x).length) (h1 : v.one = true) :
  ∃ h', Av.st g h (BM I j, o) [v] = some h' ∧ HH g h' (L.set k (EM N I (A.set j y))) F := by
 obtain ⟨hI, hw⟩ := (a.mem hk).1
 obtain ⟨h', hs, a'⟩ := (a.R3 k hk hx).st 0 (id := BM I j) (gr := none) (cs := N.pre x ++ [.map (some (C1 I j))]) rfl (o := o) (new := [v]) (ds := N.pre y ++ [.map (some (C1 I j))]) (by simp; omega) (by simp [h1]) (by
  rw [hy]
  show Cn _ o [v] = _
  unfold Cn
  rw [List.set_eq_take_append_cons_drop, if_pos ho, List.take_append_of_le_length (by omega), List.drop_append_of_le_length (by simp; omega)]
  simp)
 refine ⟨h', hs, ?_⟩
 have a2 : HH g h' (.obj (BM I j) (LR N y (C1 I j)) :: .obj (C1 I j) (IV N I y) :: L.set k (.many (SX N I A j) True)) F := by
  have e : IV N I y = IV N I x := by unfold IV; rw [hkd]
  rw [e]
  exact a'
 have hkl := (List.getElem?_eq_some_iff.1 hk).1
 have := a2.PI k (List.getElem?_set_self hkl) hI hx (hw.set fun q hq => hw x (List.mem_of_getElem? hx) q (by rw [hkd] at hq; exact hq))
 rwa [List.set_set] at this
theorem HH.R0 {P : Program} {t kt et : TypeId} (a : HH g h L F) (k : Nat) (hk : L[k]? = some (EM N I A)) {j : Nat} {x y : α} (hx : A[j]? = some x) (hS : P.underlying kt = some .string) (hu : P.underlying t = some (.map kt et)) (s : List UInt8) (v : Nat) (hv : v < A.length) (hy : N.pre y = N.pre x) (hkd : N.kd y = Dm (N.kd x) s v) :
  ∃ h', Uv P g h t (some (C1 I j)) (.str s) (.ptr (some (BM I v, 0))) = some h' ∧ HH g h' (L.set k (EM N I (A.set j y))) F := by
 obtain ⟨hI, hw⟩ := (a.mem hk).1
 obtain ⟨h', hs, a'⟩ := HH.Vz (P := P) (t := t) (kt := kt) (et := et) (ev := fun v : Nat => AA.ptr (some (BM I v, 0))) (UD hS) (a.R3 k hk hx) 1 (id := C1 I j) (m := N.kd x) rfl hu s v rfl
 refine ⟨h', hs, ?_⟩
 have a2 : HH g h' (.obj (BM I j) (LR N y (C1 I j)) :: .obj (C1 I j) (IV N I y) :: L.set k (.many (SX N I A j) True)) F := by
  have e : IV N I y = .map 2 (Et (fun k : List UInt8 => .str k) (fun v : Nat => .ptr (some (BM I v, 0))) (Dm (N.kd x) s v)) := by unfold IV; rw [hkd]
  have e2 : LR N y (C1 I j) = LR N x (C1 I j) := by unfold LR; rw [hy]
  rw [e, e2]
  exact a'
 have hkl := (List.getElem?_eq_some_iff.1 hk).1
 have := a2.PI k (List.getElem?_set_self hkl) hI hx (hw.set fun q hq => by
  rw [hkd] at hq
  rcases Nt hq with rfl | hq
  ·exact hv
  ·exact hw x (List.mem_of_getElem? hx) q hq)
 rwa [List.set_set] at this
theorem Om {β γ : Type} {f g : β → List γ} {l : List β} (h : ∀ x ∈ l, f x = g x) : l.flatMap f = l.flatMap g := by
 rw [List.flatMap_def, List.flatMap_def, List.map_congr_left h]
theorem Pb {J : Hs} {a : α} (h : ∀ q ∈ N.kd a, q.2 < I.length) : IV N (I ++ J) a = IV N I a := by
 unfold IV Et
 congr 1
 exact List.map_congr_left fun q hq => by simp only [Ix (h q hq)]
theorem SE (hI : I.length = A.length) (hw : UA N A) {p : Nat × Nat} {x : α} (hk : N.kd x = []) : PS N (I ++ [p]) (I ++ [p]) (A ++ [x]) = PS N I I A ++ [(p.1, LR N x p.2), (p.2, IV N I x)] := by
 unfold PS
 rw [List.zip_append hI, List.flatMap_append]
 congr 1
 ·refine Om fun q hq => ?_
  have hq2 : q.2 ∈ A := (List.of_mem_zip hq).2
  unfold LM
  rw [Pb fun r hr => by rw [hI]; exact hw _ hq2 r hr]
 ·simp only [List.zip_cons_cons, List.zip_nil_right, List.flatMap_cons, List.flatMap_nil, List.append_nil]
  unfold LM
  rw [Pb fun r hr => by rw [hk] at hr; cases hr]
theorem HH.TD {id mid : Nat} {x : α} (a : HH g h (.obj id (LR N x mid) :: .obj mid (IV N I x) :: L) F) (k : Nat) (hl : L[k]? = some (EM N I A)) (hk : N.kd x = []) : HH g h (L.set k (EM N (I ++ [(id, mid)]) (A ++ [x]))) F := by
 have hl2 : (Ck.obj id (LR N x mid) :: .obj mid (IV N I x) :: L)[k + 2]? = some (EM N I A) := hl
 obtain ⟨hI, hw⟩ := (a.mem hl2).1
 refine HH.Ol (o1 := (id, LR N x mid)) (o2 := (mid, IV N I x)) a k hl ?_ ⟨by simp [hI], ?_⟩
 ·rw [SE hI hw hk]
  exact List.perm_append_comm
 ·intro b hb q hq
  rw [List.length_append]
  rcases List.mem_append.1 hb with hb | hb
  ·have := hw b hb q hq; omega
  ·have : b = x := by simpa using hb
   subst this
   rw [hk] at hq
   cases hq
theorem HH.TA {id mid : Nat} {x : α} (a : HH g h (.obj id (LR N x mid) :: .obj mid (IV N I x) :: L) F) (hk : N.kd x = []) : HH g h (EM N [(id, mid)] [x] :: L) F := by
 have e : (Ck.many ([] : List (Nat × Am)) True).ok h := ⟨trivial, by simp, fun q hq => by cases hq⟩
 have b : HH g h (.obj id (LR N x mid) :: .obj mid (IV N I x) :: .many [] True :: L) F := by
  refine ⟨fun c hc => ?_, a.nd, a.may, a.BZ, a.floor⟩
  simp only [List.cons_append, List.mem_cons] at hc
  rcases hc with h | h | rfl | h
  ·exact a.ok c (by simp [h])
  ·exact a.ok c (by simp [h])
  ·exact e
  ·exact a.ok c (by simp only [List.cons_append, List.mem_cons]; exact .inr (.inr h))
 have := HH.Ol (o1 := (id, LR N x mid)) (o2 := (mid, IV N I x)) (os := PS N [(id, mid)] [(id, mid)] [x]) (p := ([(id, mid)] : Hs).length = [x].length ∧ UA N [x]) b 0 rfl (by
  have e2 : PS N [(id, mid)] [(id, mid)] [x] = [(id, LR N x mid), (mid, IV N I x)] := by
   have e3 : IV N [(id, mid)] x = IV N I x := by unfold IV; rw [hk]; rfl
   unfold PS LM
   rw [← e3]
   rfl
  rw [e2]) ⟨rfl, fun c hc q hq => by
   have : c = x := by simpa using hc
   subst this
   rw [hk] at hq
   cases hq⟩
 exact this
theorem HH.aside (a : HH g h L F) (k : Nat) {c : Ck} (hk : L[k]? = some c) : HH g h (L.eraseIdx k) (c :: F) := by
 have b := a.front k hk
 exact ⟨fun x hx => b.ok x (by simp only [List.cons_append, List.mem_append, List.mem_cons] at hx ⊢; rcases hx with h | h | h <;> simp [h]), (by
  have := b.nd
  have e1 : AQ (c :: L.eraseIdx k ++ F) = c.ids ++ (AQ (L.eraseIdx k) ++ AQ F) := by rw [AR]; simp [AQ]
  have e2 : AQ (L.eraseIdx k ++ c :: F) = AQ (L.eraseIdx k) ++ (c.ids ++ AQ F) := by rw [AR]; simp [AQ]
  rw [e1] at this
  rw [e2]
  exact ((List.perm_append_comm_assoc _ _ _).nodup_iff).1 this), fun i hi => b.may i (by simp only [AQ, List.flatMap_cons, List.mem_append] at hi ⊢; exact .inr hi), b.BZ, b.floor⟩
theorem HH.Vh {c : Ck} (a : HH g h L (c :: F)) : HH g h L F := by
 refine ⟨fun x hx => a.ok x (by simp only [List.mem_append, List.mem_cons] at hx ⊢; rcases hx with h | h <;> simp [h]), ?_, a.may, a.BZ, a.floor⟩
 have := a.nd
 have e2 : AQ (L ++ c :: F) = AQ L ++ (c.ids ++ AQ F) := by rw [AR]; simp [AQ]
 rw [e2] at this
 rw [AR]
 have h2 := ((List.perm_append_comm_assoc _ _ _).nodup_iff).1 this
 exact (List.nodup_append.1 h2).2.1
theorem HH.okF (a : HH g h L F) {c : Ck} (hc : c ∈ F) : c.ok h := a.ok c (List.mem_append.2 (.inr hc))
theorem HH.WM {F0 : List Ck} (a : HH g h L F) (k : Nat) (hb : ∀ {h' : AB} {L : List Ck}, HH g h' L F → HH g h' L F0) {c : Ck} (hk : L[k]? = some c) : ∃ F', HH g h (L.eraseIdx k) F' ∧ c ∈ F' ∧ ∀ {h' : AB} {L : List Ck}, HH g h' L F' → HH g h' L F0 :=
 ⟨c :: F, a.aside k hk, List.mem_cons_self .., fun b => hb b.Vh⟩
end
section
variable {C : EB} {S : Self} {g : Gd} {h : AB} {fr : Fr} {op : Op}
def Tk (P : Program) (fr : Fr) : Op → Option (Bool × TypeId × (Nat × Nat) × (Nat × Nat))
 | .binOp op t (.tmp x) (.tmp y) _ =>
  match op, nth fr x, nth fr y with
  | .eql, .ptr (some a), .ptr (some b) => some (true, t, a, b)
  | .neq, .ptr (some a), .ptr (some b) => some (false, t, a, b)
  | _, _, _ => none
 | _ => none
theorem P8 {P : Program} {t : TypeId} {i o j q : Nat} {b : Bool} (hl : Gm P h t i o j q = some b) : ∃ e, P.underlying t = some (.pointer e) := by
 unfold Gm at hl
 split at hl
 ·rename_i e hu; exact ⟨e, hu⟩
 ·cases hl
theorem TI {t : TypeId} {i o j q : Nat} {b : Bool} (hs : Tk C.P fr op = some (false, t, (i, o), (j, q))) (hl : Gm C.P h t i o j q = some b) : Al C S g h fr op = some (.bool !b, h) := by
 unfold Tk at hs
 split at hs
 ·split at hs
  ·simp at hs
  ·rename_i hx hy
   simp only [Option.some.injEq, Prod.mk.injEq, true_and] at hs
   obtain ⟨rfl, rfl, rfl⟩ := hs
   obtain ⟨e, hu⟩ := P8 hl
   simp [Al, Fh, AS, K1, Ro, Qx, GK, hu, ev, hx, hy, hl]
  ·cases hs
 ·cases hs
end
end Go.Av
