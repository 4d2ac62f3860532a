/-
 A part.
-/
import Derived.Test.YtdbkpibbjnhmgaaDoorAvMap
import Derived.Test.YtdbkpibbjnhmgaaDoorAvLib
namespace Go.Av
open Go.RowKit
set_option linter.unusedVariables false
set_option linter.unusedSimpArgs false
section
variable {α : Type}
structure SB (α : Type) where
 pre : α → List AA
 kd : α → List (List UInt8 × Nat)
abbrev HR := List (Nat × Nat)
def A8 (I : HR) (j : Nat) : Nat := (I.getD j (0, 0)).1
def Cz (I : HR) (j : Nat) : Nat := (I.getD j (0, 0)).2
theorem Jn {I J : HR} {j : Nat} (h : j < I.length) : A8 (I ++ J) j = A8 I j := by unfold A8; rw [List.getD_eq_getElem?_getD, List.getD_eq_getElem?_getD, List.getElem?_append_left h]
theorem Qy {I : HR} {p : Nat × Nat} {n : Nat} (h : I.length = n) : A8 (I ++ [p]) n = p.1 := by
 subst h
 unfold A8
 rw [List.getD_eq_getElem?_getD, List.getElem?_append_right (Nat.le_refl _)]
 simp
def MD (N : SB α) (a : α) (mid : Nat) : A9 := .cells none 2 (N.pre a ++ [.map (some mid)])
def JF (N : SB α) (I : HR) (a : α) : A9 := .map 2 (Ei (fun k : List UInt8 => .str k) (fun v : Nat => .ptr (some (A8 I v, 0))) (N.kd a))
def MG (N : SB α) (I : HR) (p : Nat × Nat) (a : α) : List (Nat × A9) := [(p.1, MD N a p.2), (p.2, JF N I a)]
def VN (N : SB α) (A : List α) : Prop := ∀ a ∈ A, ∀ q ∈ N.kd a, q.2 < A.length
def QO (N : SB α) (I J : HR) (A : List α) : List (Nat × A9) := (J.zip A).flatMap fun q => MG N I q.1 q.2
def EH (N : SB α) (I : HR) (A : List α) : Ck := .many (QO N I I A) (I.length = A.length ∧ VN N A)
variable {N : SB α} {I : HR} {A : List α} {g : Gd} {h h' : AB} {P F L : List Ck}
theorem VB {I J : HR} {A : List α} {j : Nat} {p : Nat × Nat} {x : α} (hp : J[j]? = some p) (hx : A[j]? = some x) : (p.1, MD N x p.2) ∈ QO N I J A ∧ (p.2, JF N I x) ∈ QO N I J A := by
 have hz : (p, x) ∈ J.zip A := List.mem_of_getElem? (by rw [List.getElem?_zip_eq_some]; exact ⟨hp, hx⟩)
 unfold QO
 exact ⟨List.mem_flatMap.2 ⟨_, hz, by unfold MG; simp⟩, List.mem_flatMap.2 ⟨_, hz, by unfold MG; simp⟩⟩
theorem Qc (hI : I.length = A.length) {j : Nat} {x : α} (hx : A[j]? = some x) : I[j]? = some (A8 I j, Cz I j) := by
 have hl : j < I.length := by rw [hI]; exact (List.getElem?_eq_some_iff.1 hx).1
 unfold A8 Cz
 rw [List.getElem?_eq_getElem hl, List.getD_eq_getElem?_getD, List.getElem?_eq_getElem hl]
 rfl
theorem JD (k : (EH N I A).ok h) {j : Nat} {x : α} (hx : A[j]? = some x) : h.get (A8 I j) = some (MD N x (Cz I j)) ∧ h.get (Cz I j) = some (JF N I x) := by
 obtain ⟨⟨k1, k2⟩, k3, k4⟩ := k
 obtain ⟨a, b⟩ := VB (N := N) (I := I) (Qc k1 hx) hx
 exact ⟨k4 _ a, k4 _ b⟩
theorem Hn (k : (EH N I A).ok h) {j : Nat} {x : α} (hx : A[j]? = some x) {o : Nat} {v : AA} (hv : (N.pre x ++ [.map (some (Cz I j))])[o]? = some v) : PK h (A8 I j, o) = some v := by
 have hl := (List.getElem?_eq_some_iff.1 hv).1
 unfold Av.PK CB
 simp only [(JD k hx).1, MD]
 rw [if_pos ⟨by simp, by omega⟩]
 have e := (List.getElem?_eq_some_iff.1 hv).2
 rw [List.drop_eq_getElem_cons hl, e]
 rfl
theorem IA {P : Program} {t kt et : TypeId} (k : (EH N I A).ok h) {j : Nat} {x : α} (hx : A[j]? = some x) (hS : P.underlying kt = some .string) (hu : P.underlying t = some (.map kt et)) {zv : AA} (hz : Ec P et = some zv) {s : List UInt8} {v : Nat} (hf : CY (N.kd x) s = some v) :
  Ug P h t (some (Cz I j)) (.str s) = some (.ptr (some (A8 I v, 0)), true) := by
 have E := Vr hS
 unfold Ug
 rw [hu]
 simp only [E.ok, if_true, WE, (JD k hx).2, JF]
 rw [if_pos (by decide)]
 dsimp only
 rcases Gt (ev := fun v : Nat => AA.ptr (some (A8 I v, 0))) E s v (N.kd x) 0 with ⟨h1, h2, _, _⟩ | ⟨j, w, h1, h2, _, _, _⟩
 ·rw [h2] at hf; cases hf
 ·rw [h2] at hf; cases hf; rw [h1]
theorem Hl {P : Program} {t kt et : TypeId} (k : (EH N I A).ok h) {j : Nat} {x : α} (hx : A[j]? = some x) (hS : P.underlying kt = some .string) (hu : P.underlying t = some (.map kt et)) {zv : AA} (hz : Ec P et = some zv) {s : List UInt8} (hf : CY (N.kd x) s = none) :
  Ug P h t (some (Cz I j)) (.str s) = some (zv, false) := by
 have E := Vr hS
 unfold Ug
 rw [hu]
 simp only [E.ok, if_true, WE, (JD k hx).2, JF]
 rw [if_pos (by decide)]
 dsimp only
 rcases Gt (ev := fun v : Nat => AA.ptr (some (A8 I v, 0))) E s 0 (N.kd x) 0 with ⟨h1, h2, _, _⟩ | ⟨j, w, h1, h2, _, _, _⟩
 ·rw [h1]; simp [hz]
 ·rw [h2] at hf; cases hf
theorem N4 : ∀ {m : List (List UInt8 × Nat)} {k : List UInt8} {v : Nat} {q : List UInt8 × Nat}, q ∈ D7 m k v → q = (k, v) ∨ q ∈ m
 | [], k, v, q, h => by unfold D7 at h; simp at h; exact .inl h
 | (k', v') :: r, k, v, q, h => by
  unfold D7 at h
  split at h
  ·rcases List.mem_cons.1 h with h | h
   ·exact .inl h
   ·exact .inr (List.mem_cons_of_mem _ h)
  ·rcases List.mem_cons.1 h with h | h
   ·exact .inr (by rw [h]; exact List.mem_cons_self ..)
   ·rcases N4 h with h | h
    ·exact .inl h
    ·exact .inr (List.mem_cons_of_mem _ h)
theorem QS {C : EP} {km : VY} {l : List (Nat × Nat × Nat × Nat)} {f it t b : Nat} (a : HH g h L F) (k : (EH N I A).ok h) {j : Nat} {x : α} (hx : A[j]? = some x) (hk : C.kind f = 3) (hC : C.ext = MH C.P km l) (hl : HC l f = some (2, it, t)) (k1 : Nat) (h1 : L[k1]? = some (.obj b (.cells none 2 [.map (some (Cz I j))])))
  (hb : Hu ((N.kd x).map Prod.fst) = true) :
  ∃ r h', CC C g h f [.func (.func it) [] [.ptr (some (b, 0))]] (AJ r (Bb ((N.kd x).map Prod.fst)).length) h' ∧ HH g h' (.AL r t (AL eS (Bb ((N.kd x).map Prod.fst))) :: L) F := by
 have hlen : (Bb ((N.kd x).map Prod.fst)).length = ((N.kd x).map Prod.fst).length := (ED _).length_eq
 have key : Gf it t h [.func (.func it) [] [.ptr (some (b, 0))]] = some (K7 t h ((N.kd x).map Prod.fst)) := by
  unfold Gf
  simp only [if_true, K3, a.get k1 h1, (JD k hx).2, JF, JU, hb]
 rw [JJ]
 generalize hks : (N.kd x).map Prod.fst = ks at *
 cases ks with
 | nil => exact ⟨none, h, LR hk hC hl (key.trans rfl), a.PX t⟩
 | cons x ks => exact ⟨some h.size, _, LR hk hC hl (h' := h.push (.cells (some t) 2 ((Bb (x :: ks)).map .str))) (key.trans (by rw [hlen]; rfl)), a.S3 t _⟩
theorem Ul (k : (EH N I A).ok h) {i j : Nat} {x y : α} (hi : A[i]? = some x) (hj : A[j]? = some y) (hp : ∀ a, N.pre a ≠ []) {P : Program} {t e : TypeId} {z : Nat} (hu : P.underlying t = some (.pointer e)) (hz : Bf P e = some (z + 1)) : HA P h t (A8 I i) 0 (A8 I j) 0 = some (Nat.beq i j) := by
 have gi := (JD k hi).1
 have gj := (JD k hj).1
 obtain ⟨a, l, ea⟩ : ∃ a l, N.pre x ++ [AA.map (some (Cz I i))] = a :: l := by
  cases hx : N.pre x with
  | nil => exact absurd hx (hp x)
  | cons a l => exact ⟨a, _, rfl⟩
 obtain ⟨b, r, eb⟩ : ∃ b r, N.pre y ++ [AA.map (some (Cz I j))] = b :: r := by
  cases hy : N.pre y with
  | nil => exact absurd hy (hp y)
  | cons a l => exact ⟨a, _, rfl⟩
 unfold HA
 simp only [hu, hz, gi, gj, MD, ea, eb, Nat.beq_refl, Bool.and_true, Option.some.injEq]
 by_cases hij : i = j
 ·subst hij; simp [Nat.beq_refl]
 ·have h1 : Nat.beq i j = false := by
   cases hb : Nat.beq i j with
   | false => rfl
   | true => exact absurd (Nat.eq_of_beq_eq_true hb) hij
  rw [h1]
  cases hb : Nat.beq (A8 I i) (A8 I j) with
  | false => rfl
  | true =>
   exfalso
   have hid := Nat.eq_of_beq_eq_true hb
   obtain ⟨⟨k1, _⟩, k3, _⟩ := k
   have ei := Qc k1 hi
   have ej := Qc k1 hj
   have hil := (List.getElem?_eq_some_iff.1 hi).1
   have hjl := (List.getElem?_eq_some_iff.1 hj).1
   have hmap : ∀ (J : HR) (B : List α), J.length = B.length → (QO N I J B).map Prod.fst = J.flatMap fun p => [p.1, p.2] := by
    intro J
    induction J with
    | nil => intro B hB; rfl
    | cons p J ih =>
     intro B hB
     cases B with
     | nil => cases hB
     | cons b B =>
      unfold QO at ih ⊢
      simp only [List.zip_cons_cons, List.flatMap_cons, List.map_append, MG, List.map_cons, List.map_nil]
      have ih' := ih B (by simpa using hB)
      simp only [MG] at ih'
      rw [ih']
   rw [hmap I A k1] at k3
   have : ∀ (J : HR) (i j : Nat) (p q : Nat × Nat), (J.flatMap fun p => [p.1, p.2]).Nodup → J[i]? = some p → J[j]? = some q → p.1 = q.1 → i = j := by
    intro J
    induction J with
    | nil => intro i j p q _ h; simp at h
    | cons c J ih =>
     intro i j p q hn h1 h2 he
     rw [List.flatMap_cons, List.nodup_append] at hn
     obtain ⟨_, n2, n3⟩ := hn
     have mem : ∀ (i : Nat) (p : Nat × Nat), J[i]? = some p → p.1 ∈ J.flatMap fun p => [p.1, p.2] := fun i p h => List.mem_flatMap.2 ⟨p, List.mem_of_getElem? h, by simp⟩
     cases i with
     | zero =>
      cases j with
      | zero => rfl
      | succ j =>
       simp at h1 h2
       subst h1
       exact absurd he (n3 c.1 (by simp) q.1 (mem j q h2))
     | succ i =>
      cases j with
      | zero =>
       simp at h1 h2
       subst h2
       exact absurd he.symm (n3 c.1 (by simp) p.1 (mem i p h1))
      | succ j =>
       simp at h1 h2
       rw [ih i j p q n2 h1 h2 he]
   exact hij (this I i j _ _ k3 ei ej hid)
theorem Jj {os : List (Nat × A9)} {p : Prop} (hn : (os.map Prod.fst).Nodup) : (Ck.many os p).ids = os.map Prod.fst := if_pos hn
theorem L9 {k : Nat} {c : Ck} (hk : L[k]? = some c) (d : Ck) : (AX (L.set k d)).Perm (d.ids ++ AX (L.take k ++ L.drop (k + 1))) := by
 rw [Es hk]
 simp only [AY]
 have : AX [d] = d.ids := by simp [AX]
 rw [this]
 exact List.perm_append_comm_assoc _ _ _
theorem Qe {k : Nat} {c : Ck} (hk : L[k]? = some c) : (AX L).Perm (c.ids ++ AX (L.take k ++ L.drop (k + 1))) := by
 have e : L.set k c = L := by rw [Es hk]; exact (D6 hk).symm
 have := L9 hk c
 rwa [e] at this
theorem LX {k : Nat} {c d x : Ck} (hk : L[k]? = some c) (hx : x ∈ L.set k d) : x = d ∨ x ∈ L := by
 rcases List.mem_or_eq_of_mem_set hx with h | h
 ·exact .inr h
 ·exact .inl h
theorem HH.WV {os os' : List (Nat × A9)} {p : Prop} {o1 o2 : Nat × A9} (a : HH g h L F) (k : Nat) (hk : L[k]? = some (.many os p)) (hp : os.Perm (o1 :: o2 :: os')) : HH g h (.obj o1.1 o1.2 :: .obj o2.1 o2.2 :: L.set k (.many os' True)) F := by
 obtain ⟨k1, k2, k3⟩ := a.mem hk
 have hn2 : ((o1 :: o2 :: os').map Prod.fst).Nodup := ((hp.map Prod.fst).nodup_iff).1 k2
 have hn' : (os'.map Prod.fst).Nodup := by
  simp only [List.map_cons, List.nodup_cons] at hn2
  exact hn2.2.2
 have hids : (AX (.obj o1.1 o1.2 :: .obj o2.1 o2.2 :: L.set k (.many os' True))).Perm (AX L) := by
  have e1 : AX (.obj o1.1 o1.2 :: .obj o2.1 o2.2 :: L.set k (.many os' True)) = o1.1 :: o2.1 :: AX (L.set k (.many os' True)) := rfl
  rw [e1]
  refine (((L9 hk (.many os' True)).cons o2.1).cons o1.1).trans (List.Perm.trans ?_ (Qe hk).symm)
  rw [Jj hn', Jj k2]
  have := (hp.map Prod.fst).symm.append_right (AX (L.take k ++ L.drop (k + 1)))
  exact this
 refine ⟨fun c hc => ?_, ?_, fun i hi => a.may i (hids.mem_iff.1 hi), a.Bg, a.floor⟩
 ·simp only [List.cons_append, List.mem_cons, List.mem_append] at hc
  rcases hc with rfl | rfl | hc | hc
  ·exact k3 o1 (hp.mem_iff.2 (by simp))
  ·exact k3 o2 (hp.mem_iff.2 (by simp))
  ·rcases LX hk hc with rfl | hc
   ·exact ⟨trivial, hn', fun q hq => k3 q (hp.mem_iff.2 (by simp [hq]))⟩
   ·exact a.ok c (List.mem_append.2 (.inl hc))
  ·exact a.ok c (List.mem_append.2 (.inr hc))
 ·rw [AY]
  have := a.nd
  rw [AY] at this
  exact ((hids.append_right (AX F)).nodup_iff).2 this
theorem HH.PH {os os' : List (Nat × A9)} {p q : Prop} {o1 o2 : Nat × A9} (a : HH g h (.obj o1.1 o1.2 :: .obj o2.1 o2.2 :: L) F) (k : Nat) (hk : L[k]? = some (.many os' q)) (hp : os.Perm (o1 :: o2 :: os')) (hP : p) : HH g h (L.set k (.many os p)) F := by
 have hk2 : (Ck.obj o1.1 o1.2 :: Ck.obj o2.1 o2.2 :: L)[k + 2]? = some (.many os' q) := hk
 obtain ⟨_, k2, k3⟩ := a.mem hk2
 have hnd : (AX (.obj o1.1 o1.2 :: .obj o2.1 o2.2 :: L)).Nodup := by
  have := a.nd
  rw [AY, List.nodup_append] at this
  exact this.1
 have e1 : AX (.obj o1.1 o1.2 :: .obj o2.1 o2.2 :: L) = o1.1 :: o2.1 :: AX L := rfl
 have hpm : (o1.1 :: o2.1 :: AX L).Perm (os.map Prod.fst ++ AX (L.take k ++ L.drop (k + 1))) := by
  refine (((Qe hk).cons o2.1).cons o1.1).trans ?_
  rw [Jj k2]
  exact (hp.map Prod.fst).symm.append_right (AX (L.take k ++ L.drop (k + 1)))
 have hn : (os.map Prod.fst).Nodup := by
  have := (hpm.nodup_iff).1 (e1 ▸ hnd)
  rw [List.nodup_append] at this
  exact this.1
 have hids : (AX (L.set k (.many os p))).Perm (AX (.obj o1.1 o1.2 :: .obj o2.1 o2.2 :: L)) := by
  refine (L9 hk (.many os p)).trans ?_
  rw [Jj hn, e1]
  exact hpm.symm
 refine ⟨fun c hc => ?_, ?_, fun i hi => a.may i (hids.mem_iff.1 hi), a.Bg, a.floor⟩
 ·simp only [List.mem_append] at hc
  rcases hc with hc | hc
  ·rcases LX hk hc with rfl | hc
   ·refine ⟨hP, hn, fun r hr => ?_⟩
    have := hp.mem_iff.1 hr
    simp only [List.mem_cons] at this
    rcases this with rfl | rfl | hr
    ·exact a.ok (.obj r.1 r.2) (by simp)
    ·exact a.ok (.obj r.1 r.2) (by simp)
    ·exact k3 r hr
   ·exact a.ok c (by simp [hc])
  ·exact a.ok c (by simp [hc])
 ·rw [AY]
  have := a.nd
  rw [AY] at this
  exact ((hids.append_right (AX F)).nodup_iff).2 this
theorem Ls {β : Type} : ∀ {l : List β} {k : Nat} {x : β}, l[k]? = some x → l.Perm (x :: l.eraseIdx k)
 | [], k, x, h => by simp at h
 | y :: l, 0, x, h => by simp at h; subst h; exact List.Perm.refl _
 | y :: l, k + 1, x, h => ((Ls (l := l) (k := k) (x := x) (by simpa using h)).cons y).trans (List.Perm.swap x y _)
theorem Mz {β γ : Type} : ∀ (I : List β) (A : List γ) (k : Nat) (y : γ), (I.zip (A.set k y)).eraseIdx k = (I.zip A).eraseIdx k
 | [], A, k, y => by simp
 | b :: I, [], k, y => by simp
 | b :: I, c :: A, 0, y => rfl
 | b :: I, c :: A, k + 1, y => by
  simp only [List.set_cons_succ, List.zip_cons_cons, List.eraseIdx_cons_succ]
  rw [Mz I A k y]
def UD (N : SB α) (I : HR) (A : List α) (k : Nat) : List (Nat × A9) := ((I.zip A).eraseIdx k).flatMap fun q => MG N I q.1 q.2
theorem OD (hI : I.length = A.length) {j : Nat} {x : α} (hx : A[j]? = some x) : (QO N I I A).Perm ((A8 I j, MD N x (Cz I j)) :: (Cz I j, JF N I x) :: UD N I A j) := by
 unfold QO UD
 have hz : (I.zip A)[j]? = some ((A8 I j, Cz I j), x) := by rw [List.getElem?_zip_eq_some]; exact ⟨Qc hI hx, hx⟩
 have := ((Ls hz).flatMap_right fun q : (Nat × Nat) × α => MG N I q.1 q.2)
 rw [List.flatMap_cons] at this
 exact this
theorem HH.R4 (a : HH g h L F) (k : Nat) (hk : L[k]? = some (EH N I A)) {j : Nat} {x : α} (hx : A[j]? = some x) : HH g h (.obj (A8 I j) (MD N x (Cz I j)) :: .obj (Cz I j) (JF N I x) :: L.set k (.many (UD N I A j) True)) F :=
 a.WV k hk (OD (a.mem hk).1.1 hx)
theorem HH.Qh {j : Nat} {x y : α} (a : HH g h (.obj (A8 I j) (MD N y (Cz I j)) :: .obj (Cz I j) (JF N I y) :: L) F) (k : Nat) (hk : L[k]? = some (.many (UD N I A j) True)) (hI : I.length = A.length) (hx : A[j]? = some x) (hw : VN N (A.set j y)) : HH g h (L.set k (EH N I (A.set j y))) F := by
 have hx' : (A.set j y)[j]? = some y := List.getElem?_set_self (List.getElem?_eq_some_iff.1 hx).1
 have hp := OD (N := N) (I := I) (A := A.set j y) (by simpa using hI) hx'
 have e : UD N I (A.set j y) j = UD N I A j := by unfold UD; rw [Mz]
 rw [e] at hp
 exact a.PH k hk hp ⟨by simpa using hI, hw⟩
theorem VN.set (hw : VN N A) {j : Nat} {y : α} (hy : ∀ q ∈ N.kd y, q.2 < A.length) : VN N (A.set j y) := by
 intro b hb q hq
 rw [List.length_set]
 rcases List.mem_or_eq_of_mem_set hb with hb | rfl
 ·exact hw b hb q hq
 ·exact hy q hq
theorem HH.UA (a : HH g h L F) (k : Nat) (hk : L[k]? = some (EH N I A)) {j : Nat} {x y : α} (hx : A[j]? = some x) (o : Nat) (v : AA) (hy : N.pre y = (N.pre x).set o v) (hkd : N.kd y = N.kd x) (ho : o < (N.pre x).length) (h1 : v.one = true) :
  ∃ h', Av.st g h (A8 I j, o) [v] = some h' ∧ HH g h' (L.set k (EH N I (A.set j y))) F := by
 obtain ⟨hI, hw⟩ := (a.mem hk).1
 obtain ⟨h', hs, a'⟩ := (a.R4 k hk hx).st 0 (id := A8 I j) (gr := none) (cs := N.pre x ++ [.map (some (Cz I j))]) rfl (o := o) (new := [v]) (ds := N.pre y ++ [.map (some (Cz I j))]) (by simp; omega) (by simp [h1]) (by
  rw [hy]
  show C1 _ o [v] = _
  unfold C1
  rw [List.set_eq_take_append_cons_drop, if_pos ho, List.take_append_of_le_length (by omega), List.drop_append_of_le_length (by simp; omega)]
  simp)
 refine ⟨h', hs, ?_⟩
 have a2 : HH g h' (.obj (A8 I j) (MD N y (Cz I j)) :: .obj (Cz I j) (JF N I y) :: L.set k (.many (UD N I A j) True)) F := by
  have e : JF N I y = JF N I x := by unfold JF; rw [hkd]
  rw [e]
  exact a'
 have hkl := (List.getElem?_eq_some_iff.1 hk).1
 have := a2.Qh k (List.getElem?_set_self hkl) hI hx (hw.set fun q hq => hw x (List.mem_of_getElem? hx) q (by rw [hkd] at hq; exact hq))
 rwa [List.set_set] at this
theorem HH.R0 {P : Program} {t kt et : TypeId} (a : HH g h L F) (k : Nat) (hk : L[k]? = some (EH N I A)) {j : Nat} {x y : α} (hx : A[j]? = some x) (hS : P.underlying kt = some .string) (hu : P.underlying t = some (.map kt et)) (s : List UInt8) (v : Nat) (hv : v < A.length) (hy : N.pre y = N.pre x) (hkd : N.kd y = D7 (N.kd x) s v) :
  ∃ h', V9 P g h t (some (Cz I j)) (.str s) (.ptr (some (A8 I v, 0))) = some h' ∧ HH g h' (L.set k (EH N I (A.set j y))) F := by
 obtain ⟨hI, hw⟩ := (a.mem hk).1
 obtain ⟨h', hs, a'⟩ := HH.Xd (P := P) (t := t) (kt := kt) (et := et) (ev := fun v : Nat => AA.ptr (some (A8 I v, 0))) (Vr hS) (a.R4 k hk hx) 1 (id := Cz I j) (m := N.kd x) rfl hu s v rfl
 refine ⟨h', hs, ?_⟩
 have a2 : HH g h' (.obj (A8 I j) (MD N y (Cz I j)) :: .obj (Cz I j) (JF N I y) :: L.set k (.many (UD N I A j) True)) F := by
  have e : JF N I y = .map 2 (Ei (fun k : List UInt8 => .str k) (fun v : Nat => .ptr (some (A8 I v, 0))) (D7 (N.kd x) s v)) := by unfold JF; rw [hkd]
  have e2 : MD N y (Cz I j) = MD N x (Cz I j) := by unfold MD; rw [hy]
  rw [e, e2]
  exact a'
 have hkl := (List.getElem?_eq_some_iff.1 hk).1
 have := a2.Qh k (List.getElem?_set_self hkl) hI hx (hw.set fun q hq => by
  rw [hkd] at hq
  rcases N4 hq with rfl | hq
  ·exact hv
  ·exact hw x (List.mem_of_getElem? hx) q hq)
 rwa [List.set_set] at this
theorem P8 {β γ : Type} {f g : β → List γ} {l : List β} (h : ∀ x ∈ l, f x = g x) : l.flatMap f = l.flatMap g := by
 rw [List.flatMap_def, List.flatMap_def, List.map_congr_left h]
theorem Ql {J : HR} {a : α} (h : ∀ q ∈ N.kd a, q.2 < I.length) : JF N (I ++ J) a = JF N I a := by
 unfold JF Ei
 congr 1
 exact List.map_congr_left fun q hq => by simp only [Jn (h q hq)]
theorem UO (hI : I.length = A.length) (hw : VN N A) {p : Nat × Nat} {x : α} (hk : N.kd x = []) : QO N (I ++ [p]) (I ++ [p]) (A ++ [x]) = QO N I I A ++ [(p.1, MD N x p.2), (p.2, JF N I x)] := by
 unfold QO
 rw [List.zip_append hI, List.flatMap_append]
 congr 1
 ·refine P8 fun q hq => ?_
  have hq2 : q.2 ∈ A := (List.of_mem_zip hq).2
  unfold MG
  rw [Ql fun r hr => by rw [hI]; exact hw _ hq2 r hr]
 ·simp only [List.zip_cons_cons, List.zip_nil_right, List.flatMap_cons, List.flatMap_nil, List.append_nil]
  unfold MG
  rw [Ql fun r hr => by rw [hk] at hr; cases hr]
theorem HH.UW {id mid : Nat} {x : α} (a : HH g h (.obj id (MD N x mid) :: .obj mid (JF N I x) :: L) F) (k : Nat) (hl : L[k]? = some (EH N I A)) (hk : N.kd x = []) : HH g h (L.set k (EH N (I ++ [(id, mid)]) (A ++ [x]))) F := by
 have hl2 : (Ck.obj id (MD N x mid) :: .obj mid (JF N I x) :: L)[k + 2]? = some (EH N I A) := hl
 obtain ⟨hI, hw⟩ := (a.mem hl2).1
 refine HH.PH (o1 := (id, MD N x mid)) (o2 := (mid, JF N I x)) a k hl ?_ ⟨by simp [hI], ?_⟩
 ·rw [UO hI hw hk]
  exact List.perm_append_comm
 ·intro b hb q hq
  rw [List.length_append]
  rcases List.mem_append.1 hb with hb | hb
  ·have := hw b hb q hq; omega
  ·have : b = x := by simpa using hb
   subst this
   rw [hk] at hq
   cases hq
theorem HH.Uh {id mid : Nat} {x : α} (a : HH g h (.obj id (MD N x mid) :: .obj mid (JF N I x) :: L) F) (hk : N.kd x = []) : HH g h (EH N [(id, mid)] [x] :: L) F := by
 have e : (Ck.many ([] : List (Nat × A9)) True).ok h := ⟨trivial, by simp, fun q hq => by cases hq⟩
 have b : HH g h (.obj id (MD N x mid) :: .obj mid (JF N I x) :: .many [] True :: L) F := by
  refine ⟨fun c hc => ?_, a.nd, a.may, a.Bg, a.floor⟩
  simp only [List.cons_append, List.mem_cons] at hc
  rcases hc with h | h | rfl | h
  ·exact a.ok c (by simp [h])
  ·exact a.ok c (by simp [h])
  ·exact e
  ·exact a.ok c (by simp only [List.cons_append, List.mem_cons]; exact .inr (.inr h))
 have := HH.PH (o1 := (id, MD N x mid)) (o2 := (mid, JF N I x)) (os := QO N [(id, mid)] [(id, mid)] [x]) (p := ([(id, mid)] : HR).length = [x].length ∧ VN N [x]) b 0 rfl (by
  have e2 : QO N [(id, mid)] [(id, mid)] [x] = [(id, MD N x mid), (mid, JF N I x)] := by
   have e3 : JF N [(id, mid)] x = JF N I x := by unfold JF; rw [hk]; rfl
   unfold QO MG
   rw [← e3]
   rfl
  rw [e2]) ⟨rfl, fun c hc q hq => by
   have : c = x := by simpa using hc
   subst this
   rw [hk] at hq
   cases hq⟩
 exact this
theorem HH.aside (a : HH g h L F) (k : Nat) {c : Ck} (hk : L[k]? = some c) : HH g h (L.eraseIdx k) (c :: F) := by
 have b := a.front k hk
 exact ⟨fun x hx => b.ok x (by simp only [List.cons_append, List.mem_append, List.mem_cons] at hx ⊢; rcases hx with h | h | h <;> simp [h]), (by
  have := b.nd
  have e1 : AX (c :: L.eraseIdx k ++ F) = c.ids ++ (AX (L.eraseIdx k) ++ AX F) := by rw [AY]; simp [AX]
  have e2 : AX (L.eraseIdx k ++ c :: F) = AX (L.eraseIdx k) ++ (c.ids ++ AX F) := by rw [AY]; simp [AX]
  rw [e1] at this
  rw [e2]
  exact ((List.perm_append_comm_assoc _ _ _).nodup_iff).1 this), fun i hi => b.may i (by simp only [AX, List.flatMap_cons, List.mem_append] at hi ⊢; exact .inr hi), b.Bg, b.floor⟩
theorem HH.XD {c : Ck} (a : HH g h L (c :: F)) : HH g h L F := by
 refine ⟨fun x hx => a.ok x (by simp only [List.mem_append, List.mem_cons] at hx ⊢; rcases hx with h | h <;> simp [h]), ?_, a.may, a.Bg, a.floor⟩
 have := a.nd
 have e2 : AX (L ++ c :: F) = AX L ++ (c.ids ++ AX F) := by rw [AY]; simp [AX]
 rw [e2] at this
 rw [AY]
 have h2 := ((List.perm_append_comm_assoc _ _ _).nodup_iff).1 this
 exact (List.nodup_append.1 h2).2.1
theorem HH.okF (a : HH g h L F) {c : Ck} (hc : c ∈ F) : c.ok h := a.ok c (List.mem_append.2 (.inr hc))
theorem HH.Xw {F0 : List Ck} (a : HH g h L F) (k : Nat) (hb : ∀ {h' : AB} {L : List Ck}, HH g h' L F → HH g h' L F0) {c : Ck} (hk : L[k]? = some c) : ∃ F', HH g h (L.eraseIdx k) F' ∧ c ∈ F' ∧ ∀ {h' : AB} {L : List Ck}, HH g h' L F' → HH g h' L F0 :=
 ⟨c :: F, a.aside k hk, List.mem_cons_self .., fun b => hb b.XD⟩
end
section
variable {C : EP} {S : Self} {g : Gd} {h : AB} {fr : Fr} {op : Op}
def U0 (P : Program) (fr : Fr) : Op → Option (Bool × TypeId × (Nat × Nat) × (Nat × Nat))
 | .binOp op t (.tmp x) (.tmp y) _ =>
  match op, nth fr x, nth fr y with
  | .eql, .ptr (some a), .ptr (some b) => some (true, t, a, b)
  | .neq, .ptr (some a), .ptr (some b) => some (false, t, a, b)
  | _, _, _ => none
 | _ => none
theorem RG {P : Program} {t : TypeId} {i o j q : Nat} {b : Bool} (hl : HA P h t i o j q = some b) : ∃ e, P.underlying t = some (.pointer e) := by
 unfold HA at hl
 split at hl
 ·rename_i e hu; exact ⟨e, hu⟩
 ·cases hl
theorem Un {t : TypeId} {i o j q : Nat} {b : Bool} (hs : U0 C.P fr op = some (false, t, (i, o), (j, q))) (hl : HA C.P h t i o j q = some b) : Aw C S g h fr op = some (.bool !b, h) := by
 unfold U0 at hs
 split at hs
 ·split at hs
  ·simp at hs
  ·rename_i hx hy
   simp only [Option.some.injEq, Prod.mk.injEq, true_and] at hs
   obtain ⟨rfl, rfl, rfl⟩ := hs
   obtain ⟨e, hu⟩ := RG hl
   simp [Aw, GA, AZ, LM, SJ, Ry, Gk, hu, ev, hx, hy, hl]
  ·cases hs
 ·cases hs
end
end Go.Av
