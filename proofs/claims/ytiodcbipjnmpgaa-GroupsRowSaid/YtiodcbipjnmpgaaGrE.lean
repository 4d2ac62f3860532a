/-
  Groups: 'ends' tells where a node can end.
-/
import Derived.Test.YtiodcbipjnmpgaaGrM
namespace Go.Av.L
open Go.Av Go.Lib
set_option linter.unusedVariables false
set_option linter.unusedSimpArgs false
section
variable {K V : Type} [DecidableEq K]
theorem mfind_mput (m : List (K × V)) (k : K) (v : V) (n : K) : mfind (mput m k v) n = if n = k then some v else mfind m n := by
 induction m with
 | nil => simp [mput, mfind]
 | cons p m ih =>
  obtain ⟨k', v'⟩ := p
  unfold mput
  by_cases h : k = k'
  ·subst h; simp only [if_true, mfind]; by_cases h2 : n = k <;> simp [h2]
  ·rw [if_neg h]; simp only [mfind, ih]
   by_cases h2 : n = k'
   ·subst h2; simp [Ne.symm h]
   ·simp [h2]
end
open Classical in
noncomputable def rowP (n : Nat) (P : Nat → Prop) : List Bool := (List.range n).map fun j => decide (P j)
theorem rowP_len {n : Nat} {P : Nat → Prop} : (rowP n P).length = n := by simp [rowP]
open Classical in
theorem rowP_get {n : Nat} {P : Nat → Prop} {j : Nat} (h : j < n) : (rowP n P)[j]? = some (decide (P j)) := by simp [rowP, h]
open Classical in
theorem rowP_ix {n : Nat} {P : Nat → Prop} {j : Nat} (h : j < n) : ixV (rowP n P) (j : Int) = some (decide (P j)) := ixV_nat (rowP_get h)
open Classical in
theorem rowP_ext {n : Nat} {P : Nat → Prop} {l : List Bool} (hl : l.length = n) (h : ∀ j, j < n → l[j]? = some (decide (P j))) : l = rowP n P := by
 apply List.ext_getElem?
 intro j
 by_cases hj : j < n
 ·rw [h j hj, rowP_get hj]
 ·rw [List.getElem?_eq_none (by omega), List.getElem?_eq_none (by rw [rowP_len]; omega)]
theorem rowP_congr {n : Nat} {P Q : Nat → Prop} (h : ∀ j, j < n → (P j ↔ Q j)) : rowP n P = rowP n Q := by
 refine rowP_ext rowP_len fun j hj => ?_
 rw [rowP_get hj]
 congr 1
 exact decide_eq_decide.2 (h j hj)
theorem rowP_none {n : Nat} : List.replicate n false = rowP n fun _ => False := by
 refine rowP_ext List.length_replicate fun j hj => ?_
 simp [hj]
open Classical in
theorem rowP_set {n : Nat} {P : Nat → Prop} {k : Nat} {b : Bool} (hk : k < n) : (rowP n P).set k b = rowP n fun j => if j = k then b = true else P j := by
 refine rowP_ext (by rw [List.length_set, rowP_len]) fun j hj => ?_
 rw [List.getElem?_set]
 by_cases h : k = j
 ·subst h
  rw [if_pos rfl, if_pos (by rw [rowP_len]; exact hk)]
  simp
 ·rw [if_neg h, rowP_get hj]
  have h' : ¬ j = k := fun e => h e.symm
  simp [h']
open Classical in
theorem join_ok {n : Nat} {P Q : Nat → Prop} (hn : n ≤ 2000000) : M_groups_join_sOV (rowP n P) (rowP n Q) = some (rowP n fun j => P j ∨ Q j) := by
 refine W.eq ?_
 unfold M_groups_join_sOV
 refine W.bind (W.mono (W.loop (fun s => ∃ i : Nat, i ≤ n ∧ s = (rowP n fun j => P j ∨ (j < i ∧ Q j), (i : Int))) (fun s => (n - s.2).toNat) ⟨0, by omega, by rw [rowP_congr (fun j _ => show P j ↔ P j ∨ (j < 0 ∧ Q j) from by simp)]; rfl⟩ ?_ (Q := fun r => r = rowP n fun j => P j ∨ Q j)) fun r hr => W.ret hr)
 rintro _ ⟨i, hi, rfl⟩
 unfold M_groups_join_sOV_L0
 simp only []
 rw [rowP_len]
 refine W.iteP (fun hlt => ?_) fun hge => W.ret ?_
 ·have hi : i < n := by omega
  rw [rowP_ix hi, Option.bind_some, rowP_ix hi, Option.bind_some, Option.bind_some, ek64 (by omega), Int.toNat_natCast]
  refine W.ret ⟨⟨i + 1, by omega, ?_⟩, by simp only []; omega⟩
  rw [rowP_set hi]
  refine Prod.ext (rowP_congr fun j hj => ?_) rfl
  by_cases e : j = i
  ·subst e
   simp
  ·simp only [if_neg e]
   have : j < i + 1 ↔ j < i := by omega
   rw [this]
 ·exact rowP_congr fun j hj => by
   have : j < i := by omega
   simp [this]
theorem Mt.hi {ns : List S_tree_Node} {s : List UInt8} {a : Nat} {t : Int} {i j : Nat} (m : Mt ns s a t i j) (h : i ≤ s.length) : j ≤ s.length := by
 induction m with
 | one _ _ hb _ => have := (List.getElem?_eq_some_iff.1 hb).1; omega
 | cat _ _ _ _ _ _ i1 i2 => exact i2 (i1 h)
 | repStep _ _ _ _ _ _ _ i1 i2 => exact i2 (i1 h)
 | altL _ _ _ _ ih => exact ih h
 | altR _ _ _ _ ih => exact ih h
 | group _ _ _ _ ih => exact ih h
 | empty => exact h
 | repEnd => exact h
 | front => exact h
 | back => exact h
def Tn (ns : List S_tree_Node) (a : Nat) (t : Int) : Prop := t = 0 ∨ ∃ n, ns[a]? = some n ∧ n.Kind = 4 ∧ 0 ≤ t ∧ t ≤ 255 ∧ (n.Max = -1 ∨ t ≤ n.Max)
theorem Tn.le {ns : List S_tree_Node} {a : Nat} {t : Int} (h : Tn ns a t) : 0 ≤ t ∧ t ≤ 255 := by
 rcases h with rfl | ⟨_, _, _, h1, h2, _⟩
 ·omega
 ·exact ⟨h1, h2⟩
theorem after_eq {n : S_tree_Node} {t : Int} (h1 : 0 ≤ t) (h2 : t ≤ 255) : M_groups_after n t = some (nextT n t) := by
 unfold M_groups_after nextT
 rw [w64 (by omega) (by omega), iteB_dec]
 split <;> rfl
theorem Tn.next {ns : List S_tree_Node} {a : Nat} {t : Int} {n : S_tree_Node} {i : Int} (h : Tn ns a t) (hn : ns[a]? = some n) (hk : n.Kind = 4) (hr : nodeR n i) (hm : t ≠ n.Max) : Tn ns a (nextT n t) ∧ (t < n.Min → nextT n t = t + 1) := by
 obtain ⟨_, _, r3, r4, r5⟩ := hr.2.1 hk
 have h0 := h.le
 have hm2 : n.Max = -1 ∨ t ≤ n.Max := by
  rcases h with rfl | ⟨m, h1, _, _, _, h3⟩
  ·omega
  ·rw [hn] at h1; cases h1; exact h3
 unfold nextT mn
 refine ⟨.inr ⟨n, hn, hk, ?_⟩, ?_⟩
 ·split
  ·split <;> omega
  ·omega
 ·intro h
  split
  ·split <;> omega
  ·rfl
def Mem (ns : List S_tree_Node) (s : List UInt8) (told : List (S_groups_spot × List Bool)) : Prop :=
 ∀ (a : Nat) (t : Int) (i : Nat) l, mfind told ⟨(a : Int), t, (i : Int)⟩ = some l → l = rowP (s.length + 1) (Mt ns s a t i)
theorem Mem.put {ns : List S_tree_Node} {s : List UInt8} {told : List (S_groups_spot × List Bool)} (h : Mem ns s told) {a : Nat} {t : Int} {i : Nat} {l : List Bool} (hl : l = rowP (s.length + 1) (Mt ns s a t i)) : Mem ns s (mput told ⟨(a : Int), t, (i : Int)⟩ l) := by
 intro a' t' i' l' hv
 rw [mfind_mput] at hv
 split at hv
 ·rename_i e
  have e1 : (a' : Int) = a := congrArg S_groups_spot.node_ e
  have e2 : t' = t := congrArg S_groups_spot.turns_ e
  have e3 : (i' : Int) = i := congrArg S_groups_spot.at_ e
  obtain rfl : a' = a := by omega
  obtain rfl : i' = i := by omega
  subst e2
  cases hv
  exact hl
 ·exact h a' t' i' l' hv
def ms (L a : Nat) (t : Int) (i : Nat) : Nat := a * ((L + 1) * 257) + ((L - i) * 257 + (256 - t).toNat)
theorem ms_down {L a x i k : Nat} {t : Int} (hx : x < a) (hi : i ≤ L) : ms L x 0 k + 1 ≤ ms L a t i := by
 unfold ms
 have h1 : (x + 1) * ((L + 1) * 257) ≤ a * ((L + 1) * 257) := Nat.mul_le_mul_right _ hx
 have h2 : (x + 1) * ((L + 1) * 257) = x * ((L + 1) * 257) + (L + 1) * 257 := Nat.succ_mul _ _
 have h3 : (L - k) * 257 ≤ L * 257 := Nat.mul_le_mul_right _ (Nat.sub_le _ _)
 have h4 : (L + 1) * 257 = L * 257 + 257 := Nat.succ_mul _ _
 have h5 : (256 - (0 : Int)).toNat = 256 := rfl
 omega
theorem ms_on {L a i k : Nat} {t t' : Int} (h0 : 0 ≤ t) (h1 : t ≤ 255) (h2 : 0 ≤ t') (h3 : t' ≤ 255) (hk : k ≤ L) (h : i < k ∨ (k = i ∧ t' = t + 1)) : ms L a t' k + 1 ≤ ms L a t i := by
 unfold ms
 rcases h with h | ⟨rfl, rfl⟩
 ·have h5 : (L - k + 1) * 257 ≤ (L - i) * 257 := Nat.mul_le_mul_right _ (by omega)
  have h6 : (L - k + 1) * 257 = (L - k) * 257 + 257 := Nat.succ_mul _ _
  omega
 ·omega
def EndOk (ns : List S_tree_Node) (root : Int) (s : List UInt8) (S : SC_groups_ender_rest_sPOIII) (a : Nat) (t : Int) (i : Nat) : Prop :=
 ∀ told, Mem ns s told → W (S.M_groups_ender_ends ⟨⟨ns, root⟩, s, told⟩ (a : Int) t (i : Int)) fun r => r.1 = rowP (s.length + 1) (Mt ns s a t i) ∧ Mem ns s r.2
open Classical in
theorem ends_ok {ns : List S_tree_Node} {root : Int} (hns : ∀ (i : Nat) n, ns[i]? = some n → nodeR n i) {s : List UInt8} (hs : s.length ≤ 1000000) : ∀ (c n a : Nat) (t : Int) (i : Nat), ms s.length a t i ≤ c → 2 * c + 2 ≤ n → a < ns.length → Tn ns a t → i ≤ s.length → EndOk ns root s (rSC_groups_ender_rest_sPOIII n) a t i := by
 intro c
 induction c using Nat.strongRecOn with
 | _ c ih =>
  intro n a t i hc hn ha ht hi told hM
  obtain ⟨k, rfl⟩ : ∃ k, n = k + 2 := ⟨n - 2, by omega⟩
  obtain ⟨nd, hnd⟩ : ∃ nd, ns[a]? = some nd := ⟨_, List.getElem?_eq_getElem ha⟩
  have hR := hns a nd hnd
  have hT := ht.le
  have down : ∀ (x q : Nat), x < a → q ≤ s.length → ∀ m, k ≤ m → EndOk ns root s (rSC_groups_ender_rest_sPOIII m) x 0 q := by
   intro x q hx hq m hm
   have := ms_down (L := s.length) (t := t) (k := q) hx hi
   exact ih (ms s.length x 0 q) (by omega) m x 0 q (Nat.le_refl _) (by omega) (by omega) (.inl rfl) hq
  show W (B_groups_ender_ends (rSC_groups_ender_rest_sPOIII (k + 1)) _ _ _ _) _
  unfold B_groups_ender_ends
  simp only []
  cases hf : mfind told ⟨(a : Int), t, (i : Int)⟩ with
  | some v => exact W.ret ⟨hM a t i v hf, hM⟩
  | none =>
   show W (need _ _) _
   have hL : IntKind.i64.wrap ((s.length : Int) + 1) = ((s.length + 1 : Nat) : Int) := ek64 (by omega)
   rw [hL, Int.toNat_natCast]
   refine W.need (decide_eq_true ⟨by omega, by omega, by omega⟩) ?_
   rw [rowP_none]
   refine W.bind (W.mono (Q := fun r => r.1 = rowP (s.length + 1) (Mt ns s a t i) ∧ Mem ns s r.2) ?_ fun r hr => ?_)
   rotate_left
   ·obtain ⟨l, m⟩ := r
    obtain ⟨h1, h2⟩ := hr
    simp only at h1 h2
    refine W.need (decide_eq_true (by rw [h1, rowP_len]; omega)) (W.ret ⟨h1, h2.put h1⟩)
   rw [ixV_nat hnd, Option.bind_some]
   have hi1 : i < s.length + 1 := by omega
   rw [iteB_beq]
   by_cases k0 : nd.Kind = 0
   ·rw [if_pos k0, rowP_ix hi1, Option.bind_some, Int.toNat_natCast, rowP_set hi1]
    refine W.ret ⟨rowP_congr fun j hj => ?_, hM⟩
    rw [inv0 hnd k0]
    by_cases e : j = i <;> simp [e]
   rw [if_neg k0, iteB_beq]
   by_cases k1 : nd.Kind = 1
   ·rw [if_pos k1]
    refine W.bind (W.mono (Q := fun b => b = true ↔ ∃ b, s[i]? = some b ∧ hasV nd.Set (b.toNat : Int) = true) ?_ fun b hb => ?_)
    ·refine W.iteP (fun hlt => ?_) fun hge => W.ret ?_
     ·have hlt' : i < s.length := by omega
      have hb := byte_lt s[i]
      rw [ixS_get hlt', Option.bind_some, has_eq _ hb.1 hb.2, Option.bind_some]
      refine W.ret ?_
      rw [List.getElem?_eq_getElem hlt']
      simp
     ·rw [List.getElem?_eq_none (by omega)]
      simp
    ·refine W.ite (fun hbt => ?_) fun hbf => W.ret ⟨rowP_congr fun j hj => ?_, hM⟩
     ·obtain ⟨c, hc1, hc2⟩ := hb.1 hbt
      have hlt := (List.getElem?_eq_some_iff.1 hc1).1
      rw [ek64 (by omega), rowP_ix (show i + 1 < s.length + 1 by omega), Option.bind_some, Int.toNat_natCast, rowP_set (by omega)]
      refine W.ret ⟨rowP_congr fun j hj => ?_, hM⟩
      rw [inv1 hnd k1]
      by_cases e : j = i + 1
      ·rw [if_pos e]; exact ⟨fun _ => ⟨e, c, hc1, hc2⟩, fun _ => rfl⟩
      ·rw [if_neg e]; exact ⟨fun h => h.elim, fun h => e h.1⟩
     ·rw [inv1 hnd k1]
      refine ⟨fun h => h.elim, fun h => ?_⟩
      rw [hb.2 h.2] at hbf
      cases hbf
   rw [if_neg k1, iteB_beq]
   by_cases k6 : nd.Kind = 6
   ·rw [if_pos k6, rowP_ix hi1, Option.bind_some, Int.toNat_natCast, rowP_set hi1]
    refine W.ret ⟨rowP_congr fun j hj => ?_, hM⟩
    rw [inv6 hnd k6]
    by_cases e : j = i
    ·subst e; simp
    ·simp only [if_neg e, false_iff]
     omega
   rw [if_neg k6, iteB_beq]
   by_cases k7 : nd.Kind = 7
   ·rw [if_pos k7, rowP_ix hi1, Option.bind_some, Int.toNat_natCast, rowP_set hi1]
    refine W.ret ⟨rowP_congr fun j hj => ?_, hM⟩
    rw [inv7 hnd k7]
    by_cases e : j = i
    ·subst e
     rw [if_pos rfl, beq_iff_eq]
     omega
    ·simp only [if_neg e, false_iff]
     omega
   rw [if_neg k7, iteB_beq]
   by_cases k3 : nd.Kind = 3
   ·rw [if_pos k3]
    obtain ⟨a1, a2, b1, b2⟩ := hR.1 (.inr k3)
    obtain ⟨x, hx⟩ := Int.eq_ofNat_of_zero_le a1
    obtain ⟨y, hy⟩ := Int.eq_ofNat_of_zero_le b1
    rw [hx, hy]
    refine W.bind ((down x i (by omega) hi (k + 1) (by omega) told hM).mono ?_)
    rintro ⟨l1, m1⟩ ⟨rfl, h1⟩
    simp only at h1
    simp only []
    rw [join_ok (by omega), Option.bind_some]
    refine W.bind ((down y i (by omega) hi (k + 1) (by omega) m1 h1).mono ?_)
    rintro ⟨l2, m2⟩ ⟨rfl, h2⟩
    simp only at h2
    simp only []
    rw [join_ok (by omega), Option.bind_some]
    refine W.ret ⟨rowP_congr fun j hj => ?_, h2⟩
    rw [inv3 hnd k3 hx hy]
    simp
   rw [if_neg k3, iteB_beq]
   by_cases k5 : nd.Kind = 5
   ·rw [if_pos k5]
    obtain ⟨a1, a2⟩ := hR.2.2 k5
    obtain ⟨x, hx⟩ := Int.eq_ofNat_of_zero_le a1
    rw [hx]
    refine W.bind ((down x i (by omega) hi (k + 1) (by omega) told hM).mono ?_)
    rintro ⟨l1, m1⟩ ⟨rfl, h1⟩
    simp only at h1
    simp only []
    rw [join_ok (by omega), Option.bind_some]
    refine W.ret ⟨rowP_congr fun j hj => ?_, h1⟩
    rw [inv5 hnd k5 hx]
    simp
   rw [if_neg k5, iteB_beq]
   by_cases k2 : nd.Kind = 2
   ·rw [if_pos k2]
    obtain ⟨a1, a2, b1, b2⟩ := hR.1 (.inl k2)
    obtain ⟨x, hx⟩ := Int.eq_ofNat_of_zero_le a1
    obtain ⟨y, hy⟩ := Int.eq_ofNat_of_zero_le b1
    rw [hx]
    refine W.bind ((down x i (by omega) hi (k + 1) (by omega) told hM).mono ?_)
    rintro ⟨l1, m1⟩ ⟨rfl, h1⟩
    simp only at h1
    simp only []
    refine W.bind (W.mono (W.loop (fun u => ∃ p : Nat, p ≤ s.length + 1 ∧ u.2.2 = (p : Int) ∧ Mem ns s u.1 ∧ u.2.1 = rowP (s.length + 1) fun j => ∃ q, q < p ∧ Mt ns s x 0 i q ∧ Mt ns s y 0 q j) (fun u => (s.length + 1 - u.2.2).toNat) ⟨0, by omega, rfl, h1, rowP_congr fun j _ => by simp⟩ ?_ (Q := fun r => Mem ns s r.1 ∧ r.2 = rowP (s.length + 1) (Mt ns s a t i))) fun r hr => by obtain ⟨m, l⟩ := r; exact W.ret ⟨hr.2, hr.1⟩)
    rintro ⟨m, l, p'⟩ ⟨p, hp, rfl, hm, rfl⟩
    simp only at hm
    unfold M_groups_ender_ends_L0
    simp only []
    rw [rowP_len]
    refine W.iteP (fun hlt => ?_) fun hge => W.ret ⟨hm, rowP_congr fun j hj => ?_⟩
    ·have hp1 : p < s.length + 1 := by omega
     rw [rowP_ix hp1, Option.bind_some]
     refine W.bind (W.mono (Q := fun r => Mem ns s r.1 ∧ r.2 = rowP (s.length + 1) fun j => ∃ q, q < p + 1 ∧ Mt ns s x 0 i q ∧ Mt ns s y 0 q j) ?_ fun r hr => ?_)
     ·refine W.iteP (fun hx1 => ?_) fun hx1 => W.ret ⟨hm, rowP_congr fun j hj => ?_⟩
      ·rw [hy]
       refine W.bind ((down y p (by omega) (by omega) (k + 1) (by omega) m hm).mono ?_)
       rintro ⟨l2, m2⟩ ⟨rfl, h2⟩
       simp only at h2
       simp only []
       rw [join_ok (by omega), Option.bind_some]
       refine W.ret ⟨h2, rowP_congr fun j hj => ?_⟩
       constructor
       ·rintro (⟨q, q1, q2, q3⟩ | q)
        ·exact ⟨q, by omega, q2, q3⟩
        ·exact ⟨p, by omega, hx1, q⟩
       ·rintro ⟨q, q1, q2, q3⟩
        by_cases e : q = p
        ·subst e; exact .inr q3
        ·exact .inl ⟨q, by omega, q2, q3⟩
      ·constructor
       ·rintro ⟨q, q1, q2⟩; exact ⟨q, by omega, q2⟩
       ·rintro ⟨q, q1, q2, q3⟩
        by_cases e : q = p
        ·subst e; exact (hx1 q2).elim
        ·exact ⟨q, by omega, q2, q3⟩
     ·obtain ⟨m3, l3⟩ := r
      obtain ⟨r1, r2⟩ := hr
      simp only at r1 r2
      refine W.ret ⟨⟨p + 1, by omega, by simp only []; exact ek64 (by omega), r1, r2⟩, ?_⟩
      simp only []
      rw [ek64 (by omega)]
      omega
    ·rw [inv2 hnd k2 hx hy]
     constructor
     ·rintro ⟨q, q1, q2, q3⟩; exact ⟨q, q2, q3⟩
     ·rintro ⟨q, q2, q3⟩
      have := q2.hi hi
      exact ⟨q, by omega, q2, q3⟩
   rw [if_neg k2, iteB_beq]
   by_cases k4 : nd.Kind = 4
   ·rw [if_pos k4]
    obtain ⟨a1, a2, r1, r2, r3⟩ := hR.2.1 k4
    obtain ⟨x, hx⟩ := Int.eq_ofNat_of_zero_le a1
    refine W.bind (W.mono (Q := fun r => r.2 = rowP (s.length + 1) (Mt ns s a t i) ∧ Mem ns s r.1) ?_ fun r hr => by obtain ⟨m, l⟩ := r; exact W.ret hr)
    show W (B_groups_ender_rest_sPOIII (rSC_groups_ender_rest_sPOIII k) _ _ _ _ _) _
    unfold B_groups_ender_rest_sPOIII
    simp only []
    rw [ixV_nat hnd, Option.bind_some]
    refine W.bind (W.mono (Q := fun l => l = rowP (s.length + 1) fun j => nd.Min ≤ t ∧ j = i) (W.iteP (fun hge => ?_) fun hlt => W.ret (rowP_congr fun j hj => ?_)) fun l2 hl2 => ?_)
    ·rw [rowP_ix hi1, Option.bind_some, Int.toNat_natCast, rowP_set hi1]
     refine W.ret (rowP_congr fun j hj => ?_)
     by_cases e : j = i
     ·rw [if_pos e]; exact ⟨fun _ => ⟨hge, e⟩, fun _ => rfl⟩
     ·rw [if_neg e]; exact ⟨fun h => h.elim, fun h => e h.2⟩
    ·exact ⟨fun h => h.elim, fun h => hlt h.1⟩
    subst hl2
    rw [iteB_beq]
    by_cases hmx : t = nd.Max
    ·rw [if_pos hmx]
     refine W.ret ⟨rowP_congr fun j hj => ?_, hM⟩
     rw [inv4 hnd k4 hx]
     constructor
     ·exact fun h => .inl h
     ·rintro (h | h)
      ·exact h
      ·exact (h.1 hmx).elim
    rw [if_neg hmx, hx]
    obtain ⟨tn, tn2⟩ := ht.next hnd k4 hR hmx
    have hT2 := tn.le
    refine W.bind ((down x i (by omega) hi k (by omega) told hM).mono ?_)
    rintro ⟨l1, m1⟩ ⟨rfl, h1⟩
    simp only at h1
    simp only []
    refine W.bind (W.mono (W.loop (fun u => ∃ p : Nat, p ≤ s.length + 1 ∧ u.2.2 = (p : Int) ∧ Mem ns s u.1 ∧ u.2.1 = rowP (s.length + 1) fun j => (nd.Min ≤ t ∧ j = i) ∨ ∃ q, q < p ∧ (q = i → t < nd.Min) ∧ Mt ns s x 0 i q ∧ Mt ns s a (nextT nd t) q j) (fun u => (s.length + 1 - u.2.2).toNat) ⟨0, by omega, rfl, h1, rowP_congr fun j _ => by simp⟩ ?_ (Q := fun r => Mem ns s r.1 ∧ r.2 = rowP (s.length + 1) (Mt ns s a t i))) fun r hr => by obtain ⟨m, l⟩ := r; exact W.ret ⟨hr.2, hr.1⟩)
    rintro ⟨m, l, p'⟩ ⟨p, hp, rfl, hm, rfl⟩
    simp only at hm
    unfold M_groups_ender_rest_sPOIII_L0
    simp only []
    rw [rowP_len]
    refine W.iteP (fun hlt => ?_) fun hge => W.ret ⟨hm, rowP_congr fun j hj => ?_⟩
    ·have hp1 : p < s.length + 1 := by omega
     rw [rowP_ix hp1, Option.bind_some]
     refine W.bind (W.mono (Q := fun r => Mem ns s r.1 ∧ r.2 = rowP (s.length + 1) fun j => (nd.Min ≤ t ∧ j = i) ∨ ∃ q, q < p + 1 ∧ (q = i → t < nd.Min) ∧ Mt ns s x 0 i q ∧ Mt ns s a (nextT nd t) q j) ?_ fun r hr => ?_)
     ·refine W.ite (fun hx1 => ?_) fun hx1 => W.ret ⟨hm, rowP_congr fun j hj => ?_⟩
      ·simp only [Bool.and_eq_true, Bool.or_eq_true, decide_eq_true_eq] at hx1
       obtain ⟨hx1, hx2⟩ := hx1
       have hle := hx1.le
       have hms : ms s.length a (nextT nd t) p + 1 ≤ ms s.length a t i := by
        refine ms_on hT.1 hT.2 hT2.1 hT2.2 (by omega) ?_
        by_cases e : i < p
        ·exact .inl e
        ·exact .inr ⟨by omega, tn2 (by omega)⟩
       rw [after_eq hT.1 hT.2, Option.bind_some]
       refine W.bind ((ih (ms s.length a (nextT nd t) p) (by omega) k a (nextT nd t) p (Nat.le_refl _) (by omega) ha tn (by omega) m hm).mono ?_)
       rintro ⟨l2, m2⟩ ⟨rfl, h2⟩
       simp only at h2
       simp only []
       rw [join_ok (by omega), Option.bind_some]
       refine W.ret ⟨h2, rowP_congr fun j hj => ?_⟩
       constructor
       ·rintro ((h | ⟨q, q1, q2⟩) | q)
        ·exact .inl h
        ·exact .inr ⟨q, by omega, q2⟩
        ·exact .inr ⟨p, by omega, by omega, hx1, q⟩
       ·rintro (h | ⟨q, q1, q2, q3, q4⟩)
        ·exact .inl (.inl h)
        ·by_cases e : q = p
         ·subst e; exact .inr q4
         ·exact .inl (.inr ⟨q, by omega, q2, q3, q4⟩)
      ·constructor
       ·rintro (h | ⟨q, q1, q2⟩)
        ·exact .inl h
        ·exact .inr ⟨q, by omega, q2⟩
       ·rintro (h | ⟨q, q1, q2, q3, q4⟩)
        ·exact .inl h
        ·by_cases e : q = p
         ·subst e
          have hle := q3.le
          have : (decide (Mt ns s x 0 i q) && (decide ((q : Int) > (i : Int)) || decide (t < nd.Min))) = true := by
           simp only [Bool.and_eq_true, Bool.or_eq_true, decide_eq_true_eq]
           refine ⟨q3, ?_⟩
           by_cases e : q = i
           ·exact .inr (q2 e)
           ·exact .inl (by omega)
          rw [this] at hx1
          cases hx1
         ·exact .inr ⟨q, by omega, q2, q3, q4⟩
     ·obtain ⟨m3, l3⟩ := r
      obtain ⟨r1, r2⟩ := hr
      simp only at r1 r2
      refine W.ret ⟨⟨p + 1, by omega, by simp only []; exact ek64 (by omega), r1, r2⟩, ?_⟩
      simp only []
      rw [ek64 (by omega)]
      omega
    ·rw [inv4 hnd k4 hx]
     constructor
     ·rintro (h | ⟨q, q1, q2, q3, q4⟩)
      ·exact .inl h
      ·exact .inr ⟨hmx, q, q2, q3, q4⟩
     ·rintro (h | ⟨_, q, q2, q3, q4⟩)
      ·exact .inl h
      ·have := q3.hi hi
       exact .inr ⟨q, by omega, q2, q3, q4⟩
   ·rw [if_neg k4]
    refine W.ret ⟨rowP_congr fun j hj => ?_, hM⟩
    refine ⟨fun h => h.elim, fun m => ?_⟩
    cases m <;> simp_all
theorem endsM_ok {ns : List S_tree_Node} {root : Int} (hns : ∀ (i : Nat) n, ns[i]? = some n → nodeR n i) (hl : ns.length ≤ 1024) {s : List UInt8} (hs : s.length ≤ 1000000) {a : Nat} {t : Int} {i : Nat} (ha : a < ns.length) (ht : Tn ns a t) (hi : i ≤ s.length) {told : List (S_groups_spot × List Bool)} (hM : Mem ns s told) :
  W (M_groups_ender_ends ⟨⟨ns, root⟩, s, told⟩ (a : Int) t (i : Int)) fun r => r.1 = rowP (s.length + 1) (Mt ns s a t i) ∧ Mem ns s r.2 := by
 refine ends_ok hns hs _ bigF a t i (Nat.le_refl _) ?_ ha ht hi told hM
 rw [bigF_eq]
 unfold ms
 have hT := ht.le
 have h1 : a * ((s.length + 1) * 257) ≤ 1024 * (1000001 * 257) := Nat.mul_le_mul (by omega) (Nat.mul_le_mul_right _ (by omega))
 have h2 : (s.length - i) * 257 ≤ 1000000 * 257 := Nat.mul_le_mul_right _ (by omega)
 omega
end Go.Av.L
