/-
 A part.
-/
import Derived.Test.YtdbkpibbjnhmgaaDoorFoV
namespace Go.Av.L
open Go.Av Go.Lib
set_option linter.unusedVariables false
set_option linter.unusedSimpArgs false
theorem KZ {ps : List Pa} : ∀ {i : Nat} {q : Pa}, C2 ps i q < 0 → ∀ j, j < i → ps[j]? ≠ some q
 | 0, q, _, j, hj => by omega
 | i + 1, q, h, j, hj => by
  unfold C2 at h
  by_cases e : ps[i]? = some q
  ·rw [if_pos e] at h; omega
  ·rw [if_neg e] at h
   by_cases ej : j = i
   ·subst ej; exact e
   ·exact KZ h j (by omega)
structure U5 (Ps : List Pa) (P : Pa) (D : Int) : Prop where
 pos : 0 ≤ D
 all : ∀ (k : Nat) (d : Pa), Ps[k]? = some (P ++ d) → (d.length : Int) ≤ D
 one : ∃ (k : Nat) (d : Pa), Ps[k]? = some (P ++ d) ∧ (d.length : Int) = D
theorem Ma {f : Nat → Option Int} {D : Nat → Int} : ∀ (l : List (Bw × Nat)) (m : Int), (∀ q ∈ l, f q.2 = some (D q.2) ∧ 0 ≤ D q.2 ∧ D q.2 ≤ 1000) →
  ∃ r, Rm f l m = some r ∧ m ≤ r ∧ (∀ q ∈ l, D q.2 + 1 ≤ r) ∧ (r = m ∨ ∃ q ∈ l, r = D q.2 + 1)
 | [], m, _ => ⟨m, rfl, Int.le_refl _, (fun q hq => by cases hq), .inl rfl⟩
 | q :: l, m, h => by
  obtain ⟨h1, h2, h3⟩ := h q (by simp)
  obtain ⟨r, e, r1, r2, r3⟩ := Ma l (RQ m (IntKind.i64.wrap (D q.2 + 1))) fun q hq => h q (by simp [hq])
  have ew : RQ m (IntKind.i64.wrap (D q.2 + 1)) = max m (D q.2 + 1) := by
   rw [V2 (by omega) (by omega)]
   unfold RQ
   split <;> omega
  rw [ew] at e r1 r3
  refine ⟨r, ?_, by omega, fun p hp => ?_, ?_⟩
  ·unfold Rm
   rw [h1]
   simp only
   rw [ew]
   exact e
  ·rcases List.mem_cons.1 hp with rfl | hp
   ·omega
   ·exact r2 p hp
  ·rcases r3 with r3 | ⟨p, hp, r3⟩
   ·by_cases hm : m ≥ D q.2 + 1
    ·exact .inl (by omega)
    ·exact .inr ⟨q, by simp, by omega⟩
   ·exact .inr ⟨p, by simp [hp], r3⟩
theorem Ss {m : List (Bw × Nat)} (hn : (m.map Prod.fst).Nodup) {q : Bw × Nat} (hq : q ∈ m) : CY m q.1 = some q.2 := by
 induction m with
 | nil => cases hq
 | cons p m ih =>
  obtain ⟨c, k⟩ := p
  rw [List.map_cons, List.nodup_cons] at hn
  unfold CY
  rcases List.mem_cons.1 hq with rfl | hq
  ·rw [if_pos rfl]
  ·rw [if_neg, ih hn.2 hq]
   intro e
   exact hn.1 (List.mem_map.2 ⟨q, hq, e⟩)
theorem Ll : ∀ {m : List (Bw × Nat)} {c : Bw} {k : Nat}, CY m c = some k → (c, k) ∈ m
 | (c', k') :: m, c, k, h => by
  unfold CY at h
  by_cases e : c = c'
  ·rw [if_pos e] at h
   cases h
   subst e
   exact List.mem_cons_self ..
  ·rw [if_neg e] at h
   exact List.mem_cons_of_mem _ (Ll h)
theorem OR {A : List Nd} {Ps : List Pa} (h : AI A Ps) (hb : ∀ p ∈ Ps, p.length ≤ 150) : ∀ (n j : Nat) (P : Pa), Ps[j]? = some P → A.length - j ≤ n → ∃ D, Jc BF.kd A n j = some D ∧ U5 Ps P D
 | 0, j, P, hj, hm => by
  have := (List.getElem?_eq_some_iff.1 hj).1
  rw [← h.len] at this
  omega
 | n + 1, j, P, hj, hm => by
  obtain ⟨x, hx⟩ := h.node hj
  have hkid : ∀ q ∈ x.AP, Ps[q.2]? = some (P ++ [q.1]) := fun q hq => (h.Ic j x P hx hj q.1 q.2).1 (Ss (h.keys x (List.mem_of_getElem? hx)) hq)
  have ih : ∀ q ∈ x.AP, ∃ D, Jc BF.kd A n q.2 = some D ∧ U5 Ps (P ++ [q.1]) D := fun q hq => by
   have h2 := hkid q hq
   have hgt := h.gt hj h2
   exact OR h hb n q.2 _ h2 (by
    have := (List.getElem?_eq_some_iff.1 h2).1
    rw [← h.len] at this
    omega)
  have hD : ∀ q ∈ x.AP, Jc BF.kd A n q.2 = some ((Jc BF.kd A n q.2).getD 0) ∧ 0 ≤ (Jc BF.kd A n q.2).getD 0 ∧ (Jc BF.kd A n q.2).getD 0 ≤ 1000 := fun q hq => by
   obtain ⟨D, e, hd⟩ := ih q hq
   rw [e]
   refine ⟨rfl, hd.pos, ?_⟩
   obtain ⟨k, d, e2, e3⟩ := hd.one
   have := hb _ (List.mem_of_getElem? e2)
   rw [List.length_append] at this
   simp only [Option.getD_some]
   omega
  obtain ⟨r, e, r1, r2, r3⟩ := Ma (f := Jc BF.kd A n) (D := fun k => (Jc BF.kd A n k).getD 0) x.AP 0 hD
  refine ⟨r, ?_, r1, fun k d hk => ?_, ?_⟩
  ·simp only [Jc]
   rw [hx, Option.bind_some]
   exact e
  ·cases d with
   | nil => simp; exact r1
   | cons c d =>
    have hk' : Ps[k]? = some ((P ++ [c]) ++ d) := by rw [hk]; simp
    obtain ⟨k1, hk1⟩ := h.front d hk'
    have hm1 := Ll ((h.Ic j x P hx hj c k1).2 hk1)
    obtain ⟨D, e1, hd⟩ := ih _ hm1
    have h1 := r2 _ hm1
    simp only [e1, Option.getD_some] at h1
    have h2 := hd.all k d hk'
    simp only [List.length_cons]
    omega
  ·rcases r3 with r3 | ⟨q, hq, r3⟩
   ·exact ⟨j, [], by rw [List.append_nil]; exact hj, by rw [r3]; rfl⟩
   ·obtain ⟨D, e1, hd⟩ := ih q hq
    obtain ⟨k, d, e2, e3⟩ := hd.one
    simp only [e1, Option.getD_some] at r3
    exact ⟨k, q.1 :: d, by rw [e2]; simp, by simp only [List.length_cons]; omega⟩
theorem Vh {l : List Mb} (hs : Small l) {A : List Nd} {Ps : List Pa} (h : GL l l.length A Ps) : ∀ p ∈ Ps, p.length ≤ 150 := fun p hp => by
 rcases (h.all p).1 hp with rfl | hk
 ·simp
 ·exact J2 hk hs.D1
theorem O3 {l : List Mb} {A : List Nd} {Ps : List Pa} (h : GL l l.length A Ps) {R : List Rw} (hr : Iu (paths l) l.length R) (q : Pa) : q ∈ R.map (·.L) ↔ q ≠ [] ∧ q ∈ Ps := by
 rw [hr.keys, h.all]
 constructor
 ·exact fun h => ⟨h.1, .inr h.2⟩
 ·exact fun h => ⟨h.1, h.2.resolve_left h.1⟩
def Rk : List Rw → Int → Int
 | [], m => m
 | x :: l, m => Rk l (mx m (x.L.length : Int))
theorem U4 (a b : Int) : mx a b = max a b := by unfold mx; split <;> omega
theorem Ot : ∀ (l : List Rw) (m : Int), m ≤ Rk l m ∧ (∀ x ∈ l, (x.L.length : Int) ≤ Rk l m) ∧ (Rk l m = m ∨ ∃ x ∈ l, Rk l m = (x.L.length : Int))
 | [], m => ⟨Int.le_refl _, (fun x hx => by cases hx), .inl rfl⟩
 | x :: l, m => by
  obtain ⟨h1, h2, h3⟩ := Ot l (mx m (x.L.length : Int))
  rw [U4] at h1 h3
  simp only [Rk]
  rw [U4] at h2 ⊢
  refine ⟨by omega, fun y hy => ?_, ?_⟩
  ·rcases List.mem_cons.1 hy with rfl | hy
   ·omega
   ·exact h2 y hy
  ·rcases h3 with h3 | ⟨y, hy, h3⟩
   ·by_cases hm : m ≥ (x.L.length : Int)
    ·exact .inl (by omega)
    ·exact .inr ⟨x, by simp, by omega⟩
   ·exact .inr ⟨y, by simp [hy], h3⟩
theorem SV {l : List Mb} (hs : Small l) {A : List Nd} {Ps : List Pa} (h : GL l l.length A Ps) {R : List Rw} (hr : Iu (paths l) l.length R) {f : AV} (hf : f.Au = 0) : CL f A = some (Rk R 0) := by
 have hfewA : A.length ≤ 2401 := by have := h.Ky; have := hs.Ky; omega
 obtain ⟨D, e, hd⟩ := OR h.ai (Vh hs h) Rr 0 [] h.ai.root (by unfold Rr; omega)
 unfold CL
 rw [hf, e, Option.bind_some]
 congr 1
 obtain ⟨h1, h2, h3⟩ := Ot R 0
 obtain ⟨k, d, e2, e3⟩ := hd.one
 rw [List.nil_append] at e2
 have hle : D ≤ Rk R 0 := by
  by_cases hd0 : d = []
  ·subst hd0; simp at e3; omega
  ·obtain ⟨x, hx, hxl⟩ := List.mem_map.1 ((O3 h hr d).2 ⟨hd0, List.mem_of_getElem? e2⟩)
   have := h2 x hx
   have hxl' : x.L = d := hxl
   rw [hxl'] at this
   omega
 have hge : Rk R 0 ≤ D := by
  rcases h3 with h3 | ⟨x, hx, h3⟩
  ·rw [h3]; exact hd.pos
  ·obtain ⟨k, hk⟩ := List.mem_iff_getElem?.1 ((O3 h hr x.L).1 (List.mem_map.2 ⟨x, hx, rfl⟩)).2
   have := hd.all k x.L (by rw [List.nil_append]; exact hk)
   omega
 omega
theorem Pv {R : List Rw} (hR : ∀ x ∈ R, (∀ c ∈ x.L, Nz c) ∧ x.L.length < 900000 ∧ (pj x.L).length < 900000000) (hl : R.length < 100000) : ∀ (n i : Nat), i + n = R.length →
  feed (Ak R) ((R.drop i).map fun x => (pj x.L, x.At)) (.inl (i : Int)) = some (true, .inl (R.length : Int)) := by
 intro n
 induction n with
 | zero =>
  intro i hi
  have e : i = R.length := by omega
  subst e
  rw [List.drop_length]
  rfl
 | succ n ih =>
  intro i hi
  have hlt : i < R.length := by omega
  obtain ⟨h1, h2, h3⟩ := hR _ (List.getElem_mem hlt)
  rw [drop_cons hlt, List.map_cons]
  have st : Ak R (i : Int) (pj R[i].L, R[i].At) = some (.inl ((i + 1 : Nat) : Int)) := by
   rw [Ak, AR, if_neg (by omega), Br hlt, Option.bind_some, QR h1 (by omega) h3, Option.bind_some, beq_self_eq_true, Bool.not_true, Option.bind_some, A7, Option.bind_some, bne_self_eq_false, Option.bind_some, A7, Eh (by omega)]
  simp only [feed]
  rw [G5 st]
  exact ih (i + 1) (by omega)
theorem Qi {l : List Mb} (hs : Small l) {A : List Nd} {Ps : List Pa} (h : GL l l.length A Ps) : (L2 A).length = A.length - 1 := by
 have hfewA : A.length ≤ 2401 := by have := h.Ky; have := hs.Ky; omega
 have hb : A.length - 0 ≤ KR := K0 (by omega)
 have hnd : (L2 A).Nodup := (List.pairwise_map.1 (Nu h.ai KR 0 [] h.ai.root hb)).imp fun q e => Py q (congrArg (Ms Ps) e)
 have hmem := Gz h.ai KR 0 [] h.ai.root hb
 have h0 : (0 : Nat) ∉ L2 A := fun hk => by
  obtain ⟨d, hd, e⟩ := (hmem 0).1 hk
  rw [h.ai.root] at e
  exact hd (by simpa using (Option.some.inj e).symm)
 have hp : (0 :: L2 A).Perm (List.range A.length) := by
  refine (List.perm_ext_iff_of_nodup (List.nodup_cons.2 ⟨h0, hnd⟩) List.nodup_range).2 fun k => ?_
  rw [List.mem_cons, List.mem_range, hmem k, h.ai.len]
  constructor
  ·rintro (rfl | ⟨d, _, e⟩)
   ·exact (List.getElem?_eq_some_iff.1 h.ai.root).1
   ·exact (List.getElem?_eq_some_iff.1 e).1
  ·intro hk
   have e : Ps[k]? = some Ps[k] := List.getElem?_eq_getElem hk
   by_cases hd : Ps[k] = []
   ·rw [hd] at e
    exact .inl (Ff h.ai.Tk e h.ai.root)
   ·exact .inr ⟨Ps[k], hd, by rw [List.nil_append]; exact e⟩
 have := hp.length_eq
 rw [List.length_cons, List.length_range] at this
 omega
def N7 (x : Rw) : Bool := decide (x.At < 0)
theorem KG {A : List Nd} {Ps : List Pa} (hat : ∀ k, -1 ≤ H0 A k) : ∀ (ks : List Nat), (∀ k ∈ ks, ∃ x, A[k]? = some x ∧ x.at_ = H0 A k) → ∀ acc : List Bw, acc.length + ks.length < 100000 →
  feed (Aj A) (ks.map (Td Ps)) (.inl acc) = some (true, .inl (acc ++ (ks.filter fun k => decide (H0 A k < 0)).map fun k => pj (Ms Ps k)))
 | [], _, acc, _ => by simp [feed]
 | k :: ks, h, acc, hl => by
  obtain ⟨x, hx, ha⟩ := h k (by simp)
  simp only [List.length_cons] at hl
  simp only [List.map_cons, feed]
  have hk := hat k
  by_cases hm : H0 A k < 0
  ·have st : Aj A acc (Td Ps k) = some (.inl (acc ++ [pj (Ms Ps k)])) := by
    rw [Aj]
    show (A[k]?).bind _ = _
    rw [hx, Option.bind_some, ha, show H0 A k = -1 by omega, beq_self_eq_true, BY, FB (by simp; omega) (by simp; omega), Ao]
   rw [G5 st]
   show feed _ _ _ = _
   rw [KG hat ks (fun k hk => h k (by simp [hk])) _ (by simp; omega), List.filter_cons_of_pos (by simp [hm])]
   simp
  ·have st : Aj A acc (Td Ps k) = some (.inl acc) := by
    rw [Aj]
    show (A[k]?).bind _ = _
    rw [hx, Option.bind_some, ha, beq_eq_false_iff_ne.2 (by omega), A7]
   rw [G5 st]
   show feed _ _ _ = _
   rw [KG hat ks (fun k hk => h k (by simp [hk])) _ (by omega), List.filter_cons_of_neg (by simpa using hm)]
theorem Pn {l : List Mb} (hs : Small l) {A : List Nd} {Ps : List Pa} (h : GL l l.length A Ps) {R : List Rw} (hr : Iu (paths l) l.length R) {f : AV} (hf : f.Au = 0) : Bh f A = some ((R.filter N7).map fun x => pj x.L) := by
 have hfewA : A.length ≤ 2401 := by have := h.Ky; have := hs.Ky; omega
 have hat : ∀ k, -1 ≤ H0 A k := fun k => by
  unfold H0
  cases hk : A[k]? with
  | none => simp
  | some x =>
   obtain ⟨P, hP⟩ := h.ai.at_ hk
   have := (h.IS k x P hk hP).1
   have hg := Mg (paths l) l.length P
   simp only [Option.map_some, Option.getD_some]
   rw [this]
   split <;> omega
 have hfd := KG (Ps := Ps) hat (L2 A) (fun k hk => by
  obtain ⟨x, h1, _, _, h4, _⟩ := LD hs h hk
  exact ⟨x, h1, h4⟩) [] (by have := Qi hs h; simp; omega)
 unfold Bh By
 rw [Option.bind_some, L6 hs h hf hfd, Option.bind_some]
 simp only [List.nil_append]
 congr 1
 rw [Q8 hs h hr, List.filter_map, List.map_map]
 rfl
theorem RC {l : List Mb} (hs : Small l) {A : List Nd} {Ps : List Pa} (h : GL l l.length A Ps) {R : List Rw} (hr : Iu (paths l) l.length R) {f : AV} (hf : f.Au = 0) {x : Rw} (hx : x ∈ R) (hm : x.At < 0) :
  ∃ c r, BZ f (pj x.L) A = some (c :: r) := by
 obtain ⟨_, j, hj, q, hq, m, hxm⟩ := (hr.keys x.L).1 (List.mem_map.2 ⟨x, hx, rfl⟩)
 obtain ⟨mb, hmb, rfl⟩ := List.mem_map.1 (List.mem_of_getElem? hq)
 have hne : x.L ≠ D1 mb.Name := fun e => by
  have := hr.IS x hx
  rw [this] at hm
  exact KZ hm j hj (by rw [e]; exact hq)
 have hmlt : m < (D1 mb.Name).length := by
  rcases Nat.lt_or_ge m (D1 mb.Name).length with h1 | h1
  ·exact h1
  ·rw [List.take_of_length_le h1] at hxm
   exact absurd hxm hne
 have hlen : (pj x.L).length ≤ 100 := by
  have a1 := Fa (D1 mb.Name) m
  have a2 := El mb.Name
  have a3 := hs.names mb hmb
  rw [hxm]
  omega
 have hpth : D1 (pj x.L) = x.L := by
  unfold D1
  rw [Lw _ fun c hc => by rw [hxm] at hc; exact JV (List.mem_of_mem_take hc), List.filter_eq_self]
  intro c hc
  rw [hxm] at hc
  exact (List.mem_filter.1 (List.mem_of_mem_take hc)).2
 have hxl : x.L.length = m := by rw [hxm, List.length_take]; omega
 have hplen := hs.D1 _ (List.mem_of_getElem? hq)
 obtain ⟨k, hk⟩ := List.mem_iff_getElem?.1 ((h.all x.L).2 (.inr ⟨j, hj, _, hq, m, hxm⟩))
 obtain ⟨y, hy, hc⟩ := OY hs h hf (s := pj x.L) (by omega) (k := k) (by rw [hpth]; exact hk)
 rw [hc]
 obtain ⟨k2, hk2⟩ := List.mem_iff_getElem?.1 ((h.all ((D1 mb.Name).take (m + 1))).2 (.inr ⟨j, hj, _, hq, m + 1, rfl⟩))
 rw [CH (List.getElem?_eq_getElem hmlt), ← hxm] at hk2
 have hmem := Gi.2 (FX.2 ⟨k2, (h.ai.Ic k y _ hy hk _ k2).2 hk2⟩)
 cases he : Bb (y.AP.map Prod.fst) with
 | nil => rw [he] at hmem; cases hmem
 | cons c r => exact ⟨_, _, rfl⟩
theorem Pr {l : List Mb} (hs : Small l) {A : List Nd} {Ps : List Pa} (h : GL l l.length A Ps) {R : List Rw} (hr : Iu (paths l) l.length R) {f : AV} (hf : f.Au = 0) :
  ∀ (n i : Nat) (acc : List Bw) (dp : Int), i + n = R.length → acc.length ≤ i →
   loop (Ac f A R) (acc, dp, (i : Int)) = some (.inl (acc ++ ((R.drop i).filter N7).map fun x => pj x.L, Rk (R.drop i) dp)) := by
 have hRs := L5 hs hr
 have hrl : R.length < 100000 := by have := hr.len; have := hs.Ky; omega
 intro n
 induction n with
 | zero =>
  intro i acc dp hi ha
  refine Ba ?_
  rw [Ac, AR, if_neg (by omega), List.drop_of_length_le (by omega)]
  simp [Rk]
 | succ n ih =>
  intro i acc dp hi ha
  have hlt : i < R.length := by omega
  obtain ⟨h1, h2, h3⟩ := hRs _ (List.getElem_mem hlt)
  have ed := drop_cons hlt
  by_cases hm : R[i].At < 0
  ·obtain ⟨c, r, hk⟩ := RC hs h hr hf (List.getElem_mem hlt) hm
   have st : Ac f A R (acc, dp, (i : Int)) = some (.inl (acc ++ [pj R[i].L], mx dp (R[i].L.length : Int), ((i + 1 : Nat) : Int))) := by
    rw [Ac, AR, if_pos (by omega), Br hlt, Option.bind_some, decide_eq_true hm, BY, QR h1 (by omega) h3, Option.bind_some, FB (by simp; omega) (by simp; omega), Ao, Option.bind_some, hk, Option.bind_some, beq_eq_false_iff_ne.2 (by simp only [List.length_cons]; omega), A7, Option.bind_some]
    simp only
    rw [Eh (by omega)]
   rw [Cx st, ih (i + 1) _ _ (by omega) (by simp; omega), Kj hlt, ed]
   have : N7 R[i] = true := decide_eq_true hm
   rw [this]
   simp [Rk]
  ·have st : Ac f A R (acc, dp, (i : Int)) = some (.inl (acc, mx dp (R[i].L.length : Int), ((i + 1 : Nat) : Int))) := by
    rw [Ac, AR, if_pos (by omega), Br hlt, Option.bind_some, decide_eq_false hm, A7, Option.bind_some]
    simp only
    rw [Eh (by omega)]
   rw [Cx st, ih (i + 1) _ _ (by omega) (by omega), Kj hlt, ed]
   have : N7 R[i] = false := decide_eq_false hm
   rw [this]
   simp [Rk]
theorem L4 (x0 : List Mb) {Q0 : Prop} (k0 : Q0) : CE x0 = some true := by
 unfold CE
 rcases UI x0 with h | ⟨h, hs⟩
 ·rw [h, Option.bind_some, BY, Q2]; rfl
 ·rw [h, Option.bind_some, A7]
  refine W.eq (W.bind ((SF hs).mono ?_))
  rintro ⟨f, A⟩ ⟨hf, hn, Ps, hb⟩
  simp only at hf hn hb
  refine W.bind ((SN hs).mono fun R hR => ?_)
  have g1 := L5 hs hR
  have hrl : R.length < 100000 := by have := hR.len; have := hs.Ky; omega
  have hrow := Q8 hs hb hR
  have hfeed := Pv g1 hrl R.length 0 (by omega)
  rw [List.drop_zero] at hfeed
  have e1 : (R.map fun x => (pj x.L, x.At)) = (L2 A).map fun k => (pj (Ms Ps k), H0 A k) := by
   conv => lhs; rw [hrow]
   rw [List.map_map]; rfl
  rw [e1] at hfeed
  have hall := all_some hs hb hf (Y := Ak R) hfeed
  rw [show ((0 : Nat) : Int) = 0 from rfl] at hall
  unfold DJ
  rw [Option.bind_some, hall, Option.bind_some]
  simp only
  have hloop := Pr hs hb hR hf R.length 0 [] 0 (by omega) (by simp)
  rw [show ((0 : Nat) : Int) = 0 from rfl, List.drop_zero, List.nil_append] at hloop
  rw [hloop, Option.bind_some]
  simp only
  have hlen : (R.length : Int) = f.n_ := by
   rw [hn, ← Qi hs hb]
   have := congrArg List.length hrow
   rw [List.length_map] at this
   rw [this]
  unfold Cm
  simp only [beq_self_eq_true, BY, Option.bind_some, ← hlen]
  rw [SV hs hb hR hf]
  simp only [beq_self_eq_true, BY, Option.bind_some]
  rw [Pn hs hb hR hf, Option.bind_some, RL _ _ (by
   rw [List.length_map]
   have := List.length_filter_le N7 R
   omega)]
  simp only [beq_self_eq_true, BY, Option.bind_some]
  rw [Q2]
  exact W.ret rfl
end Go.Av.L
