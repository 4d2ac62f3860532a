/-
  DfaCaps: a tree by the document's words; whether it is right, and its weight.
-/
import Derived.Test.YtiodcbipjnmpgaaCapC
namespace Go.Av.L
open Go.Av Go.Lib
set_option linter.unusedVariables false
set_option linter.unusedSimpArgs false
structure PlainR (t : S_tree_Tree) (p : S_boulterref18_Tree) : Prop where
 root : p.Root = t.Root
 len : p.L.length = t.Nodes.length
 at_ : ∀ (i : Nat) n, t.Nodes[i]? = some n → ∃ S : List UInt8, p.L[i]? = some ⟨n.Kind, n.A, n.B, n.Min, n.Max, n.Group, S⟩ ∧ (S = [] ↔ n.Set = zeroS)
theorem plain_ok (t : S_tree_Tree) (hn : t.Nodes.length ≤ 1048576) (hs : ∀ n ∈ t.Nodes, OkS n.Set) : W (M_boulterlaw18_Plain t) (PlainR t) := by
 unfold M_boulterlaw18_Plain
 let I : Nat → List S_boulterref18_Node → Prop := fun i l => l.length = i ∧ ∀ (j : Nat) n, j < i → t.Nodes[j]? = some n → ∃ S : List UInt8, l[j]? = some ⟨n.Kind, n.A, n.B, n.Min, n.Max, n.Group, S⟩ ∧ (S = [] ↔ n.Set = zeroS)
 refine W.bind (W.mono (W.loop (fun s => ∃ i : Nat, s.2 = (i : Int) ∧ i ≤ t.Nodes.length ∧ I i s.1) (fun s => (t.Nodes.length - s.2).toNat) ⟨0, rfl, by omega, rfl, fun j n hj => by omega⟩ ?_ (Q := fun l => I t.Nodes.length l)) fun l hl => W.ret ⟨rfl, hl.1, fun i n hi => hl.2 i n (List.getElem?_eq_some_iff.1 hi).1 hi⟩)
 rintro ⟨x1, x2⟩ ⟨i, hi, h1, h2, h3⟩
 simp only at hi h2 h3
 subst hi
 unfold M_boulterlaw18_Plain_L0
 refine W.iteP (fun hb => ?_) fun hb => W.ret ?_
 ·have hi : i < t.Nodes.length := by omega
  rw [ixV_get hi, Option.bind_some]
  have ok := hs _ (List.getElem_mem hi)
  refine W.bind ((bytes_ok ok).mono fun x5 h5 => W.need (okN_of (by simp; omega) (by simp; omega)) (W.ret ⟨⟨i + 1, ?_, by omega, by simp; omega, ?_⟩, ?_⟩))
  ·simp only; exact ek64 (by omega)
  ·intro j n hj hjn
   simp only
   by_cases e : j < i
   ·rw [List.getElem?_append_left (by omega)]
    exact h3 j n e hjn
   ·obtain rfl : j = i := by omega
    rw [List.getElem?_append_right (by omega), h2, Nat.sub_self]
    rw [List.getElem?_eq_getElem hi] at hjn
    cases hjn
    exact ⟨x5, rfl, by rw [h5]; exact empty_iff ok⟩
  ·simp only; rw [ek64 (by omega)]; omega
 ·obtain rfl : i = t.Nodes.length := by omega
  exact ⟨h2, h3⟩
theorem small_ok (p : S_boulterref18_Tree) : W (M_boulterref18_Small p) fun _ => True := by
 unfold M_boulterref18_Small
 refine W.iteP (fun _ => W.ret trivial) fun hl => ?_
 refine W.bind (W.mono (W.loop (fun s => ∃ i : Nat, s.2.2 = (i : Int) ∧ i ≤ p.L.length ∧ s.1.length = i) (fun s => (p.L.length - s.2.2).toNat) ⟨0, rfl, by omega, rfl⟩ ?_ (Q := fun _ => True)) fun r _ => by cases r <;> exact W.ret trivial)
 rintro ⟨x1, x2, x3⟩ ⟨i, hi, h1, h2⟩
 simp only at hi h2
 subst hi
 unfold M_boulterref18_Small_L0
 refine W.iteP (fun hb => ?_) fun _ => W.ret trivial
 have hi : i < p.L.length := by omega
 rw [ixV_get hi]
 have e2 : IntKind.i64.wrap ((i : Int) + 1) = ((i + 1 : Nat) : Int) := ek64 (by omega)
 rw [e2]
 have get : ∀ {a : Int} {b : Bool}, b = (decide (a ≥ 0) && decide (a < (i : Int))) → b = true → ∃ v, ixV x1 a = some v := by
  intro a b hb h
  rw [hb] at h
  simp only [Bool.and_eq_true, decide_eq_true_eq] at h
  obtain ⟨k, rfl⟩ := Int.eq_ofNat_of_zero_le h.1
  exact ⟨_, ixV_get (show k < x1.length by have := h.2; omega)⟩
 refine W.bind (W.ret (W.bind (W.mono (Q := fun _ => True) (W.ite (fun _ => W.ret trivial) fun _ => W.ret trivial) fun x6 _ => ?_)))
 refine W.iteP (fun _ => W.ret trivial) fun _ => W.ite (fun _ => W.ret trivial) fun _ => ?_
 refine W.bind (W.mono (Q := fun _ => True) (W.ite (fun h => ?_) fun _ => W.ret trivial) fun x7 _ => ?_)
 ·obtain ⟨v, hv⟩ := get rfl h
  rw [hv]; exact W.bind (W.ret (W.ret trivial))
 refine W.bind (W.mono (Q := fun _ => True) (W.ite (fun h => ?_) fun _ => W.ret trivial) fun x9 _ => ?_)
 ·obtain ⟨v, hv⟩ := get rfl h
  rw [hv]; exact W.bind (W.ret (W.ret trivial))
 refine W.iteP (fun _ => W.ret trivial) fun _ => W.need (okN_of (by simp; omega) (by simp; omega)) (W.ret ?_)
 exact ⟨⟨i + 1, rfl, by omega, by simp; omega⟩, by simp only; omega⟩
def RightP (t : S_tree_Tree) : Prop := t.Nodes.length ≤ 1024 ∧ 0 ≤ t.Root ∧ t.Root < t.Nodes.length ∧ ∀ (i : Nat) n, t.Nodes[i]? = some n → MayP n i
theorem right_iff (t : S_tree_Tree) : W (M_tree_Tree_Right t) fun b => b = true ↔ RightP t := by
 unfold M_tree_Tree_Right
 refine W.ite (fun hb => W.ret ?_) fun hb => ?_
 ·simp only [Bool.or_eq_true, decide_eq_true_eq] at hb
  simp only [Bool.false_eq_true, false_iff]
  rintro ⟨h1, h2, h3, _⟩
  omega
 simp only [Bool.or_eq_false_iff, decide_eq_false_iff_not] at hb
 refine W.bind (W.mono (W.loop (fun s => ∃ i : Nat, s = (i : Int) ∧ i ≤ t.Nodes.length ∧ ∀ (j : Nat) n, j < i → t.Nodes[j]? = some n → MayP n j) (fun s => (t.Nodes.length - s).toNat) ⟨0, rfl, by omega, fun j n hj => by omega⟩ ?_ (Q := fun o => match o with | .inl _ => RightP t | .inr b => b = false ∧ ¬ RightP t)) fun o ho => ?_)
 ·rintro _ ⟨i, rfl, h1, h2⟩
  unfold M_tree_Tree_Right_L0
  refine W.iteP (fun hlt => ?_) fun hge => W.ret ⟨by omega, by omega, by omega, fun j n hj => h2 j n (by have := (List.getElem?_eq_some_iff.1 hj).1; omega) hj⟩
  have hi : i < t.Nodes.length := by omega
  have hx := List.getElem?_eq_getElem hi
  rw [ixV_get hi, Option.bind_some]
  refine W.bind ((may_iff t.Nodes[i] i).mono fun b hb => ?_)
  cases b with
  | false => exact W.ret ⟨rfl, fun h => by have := hb.2 (h.2.2.2 i _ hx); cases this⟩
  | true =>
   refine W.ret ⟨⟨i + 1, by rw [ek64 (by omega)], by omega, fun j n hj hjn => ?_⟩, by rw [ek64 (by omega)]; omega⟩
   by_cases e : j < i
   ·exact h2 j n e hjn
   ·obtain rfl : j = i := by omega
    rw [hx] at hjn
    cases hjn
    exact hb.1 rfl
 ·cases o with
  | inl _ => exact W.ret ⟨fun _ => ho, fun _ => rfl⟩
  | inr b =>
   obtain ⟨rfl, hn⟩ := ho
   exact W.ret ⟨fun h => (by cases h), fun h => absurd h hn⟩
theorem refRight_iff {t : S_tree_Tree} {p : S_boulterref18_Tree} (P : PlainR t p) : W (M_boulterref18_Right p) fun b => b = true ↔ RightP t := by
 have hl := P.len
 have hr := P.root
 unfold M_boulterref18_Right
 refine W.ite (fun hb => W.ret ?_) fun hb => ?_
 ·simp only [Bool.or_eq_true, decide_eq_true_eq] at hb
  simp only [Bool.false_eq_true, false_iff]
  rintro ⟨h1, h2, h3, _⟩
  omega
 simp only [Bool.or_eq_false_iff, decide_eq_false_iff_not] at hb
 refine W.bind (W.mono (W.loop (fun s => ∃ i : Nat, s = (i : Int) ∧ i ≤ t.Nodes.length ∧ ∀ (j : Nat) n, j < i → t.Nodes[j]? = some n → MayP n j) (fun s => (t.Nodes.length - s).toNat) ⟨0, rfl, by omega, fun j n hj => by omega⟩ ?_ (Q := fun o => match o with | .inl _ => RightP t | .inr b => b = false ∧ ¬ RightP t)) fun o ho => ?_)
 ·rintro _ ⟨i, rfl, h1, h2⟩
  unfold M_boulterref18_Right_L0
  refine W.iteP (fun hlt => ?_) fun hge => W.ret ⟨by omega, by omega, by omega, fun j n hj => h2 j n (by have := (List.getElem?_eq_some_iff.1 hj).1; omega) hj⟩
  have hi : i < t.Nodes.length := by omega
  have hx := List.getElem?_eq_getElem hi
  obtain ⟨S, hp, hS⟩ := P.at_ i _ hx
  rw [ixV_nat hp, Option.bind_some]
  refine W.bind ((refMay_iff t.Nodes[i] S hS i).mono fun b hb => ?_)
  cases b with
  | false => exact W.ret ⟨rfl, fun h => by have := hb.2 (h.2.2.2 i _ hx); cases this⟩
  | true =>
   refine W.ret ⟨⟨i + 1, by rw [ek64 (by omega)], by omega, fun j n hj hjn => ?_⟩, by rw [ek64 (by omega)]; omega⟩
   by_cases e : j < i
   ·exact h2 j n e hjn
   ·obtain rfl : j = i := by omega
    rw [hx] at hjn
    cases hjn
    exact hb.1 rfl
 ·cases o with
  | inl _ => exact W.ret ⟨fun _ => ho, fun _ => rfl⟩
  | inr b =>
   obtain ⟨rfl, hn⟩ := ho
   exact W.ret ⟨fun h => (by cases h), fun h => absurd h hn⟩
def gl (l : List Int) (a : Int) : Nat := (l.getD a.toNat 0).toNat
theorem gl_app {l : List Int} {a : Int} (h : a.toNat < l.length) (y : List Int) : gl (l ++ y) a = gl l a := by
 unfold gl
 rw [List.getD_eq_getElem?_getD, List.getD_eq_getElem?_getD, List.getElem?_append_left h]
theorem wtF_congr {g g' : Int → Nat} {n : S_tree_Node} (hA : 2 ≤ n.Kind ∧ n.Kind ≤ 5 → g n.A = g' n.A) (hB : n.Kind = 2 ∨ n.Kind = 3 → g n.B = g' n.B) : wtF g n = wtF g' n := by
 unfold wtF
 split
 ·rw [hA (by omega), hB (by omega)]
 split
 ·rw [hA (by omega), hB (by omega)]
 split
 ·rw [hA (by omega)]
 split
 ·rw [hA (by omega)]
 rfl
structure GOk (t : S_tree_Tree) (l : List Int) : Prop where
 bnd : ∀ (k : Nat) v, l[k]? = some v → 1 ≤ v ∧ v ≤ 1048576
 at_ : ∀ (k : Nat) n v, t.Nodes[k]? = some n → l[k]? = some v → v < 1048576 → v = (wtF (gl l) n : Int)
theorem weight_ok {t : S_tree_Tree} {p : S_boulterref18_Tree} (P : PlainR t p) (R : RightP t) : W (M_boulterref20_Weight p p.Root) fun w => ∃ g, WtOk t g t.Root.toNat ∧ w = (g t.Root : Int) := by
 obtain ⟨hlen, hr0, hr1, hmay⟩ := R
 obtain ⟨r, hr⟩ := Int.eq_ofNat_of_zero_le hr0
 unfold M_boulterref20_Weight
 rw [P.root, hr]
 rw [hr] at hr1
 refine W.bind (W.mono (W.loop (fun s => ∃ i : Nat, s.2 = (i : Int) ∧ i ≤ r + 1 ∧ s.1.length = i ∧ GOk t s.1) (fun s => (r + 1 - s.2).toNat) ⟨0, rfl, by omega, rfl, fun k v h => by simp at h, fun k n v _ h => by simp at h⟩ ?_ (Q := fun l => l.length = r + 1 ∧ GOk t l)) fun l hl => ?_)
 ·rintro ⟨x1, x2⟩ ⟨i, hi, h1, h2, G⟩
  simp only at hi h2 G
  subst hi
  unfold M_boulterref20_Weight_L0
  refine W.iteP (fun hle => ?_) fun hgt => W.ret ⟨by omega, G⟩
  have hi : i < t.Nodes.length := by omega
  have hx := List.getElem?_eq_getElem hi
  obtain ⟨S, hp, hS⟩ := P.at_ i _ hx
  rw [ixV_nat hp, Option.bind_some]
  have hM := hmay i _ hx
  generalize t.Nodes[i] = n at hx hM
  have val : ∀ a : Int, 0 ≤ a ∧ a < (i : Int) → ixV x1 a = some (gl x1 a : Int) ∧ 1 ≤ gl x1 a ∧ gl x1 a ≤ 1048576 := by
   intro a ha
   obtain ⟨k, rfl⟩ := Int.eq_ofNat_of_zero_le ha.1
   have hk : k < x1.length := by omega
   have hb := G.bnd k _ (List.getElem?_eq_getElem hk)
   have e : gl x1 (k : Int) = x1[k].toNat := by unfold gl; rw [Int.toNat_natCast, List.getD_eq_getElem?_getD, List.getElem?_eq_getElem hk]; rfl
   rw [e, ixV_get hk]
   refine ⟨?_, by omega, by omega⟩
   congr 1
   omega
  have hA := hM.2.2.1
  have hB := hM.2.2.2.2.1
  have hRp := hM.2.2.2.2.2.2.2.1
  simp only []
  refine W.bind (W.mono (Q := fun x5 => (n.Kind = 2 → x5 = (gl x1 n.A : Int) + gl x1 n.B) ∧ (n.Kind = 3 → x5 = (gl x1 n.A : Int) + gl x1 n.B + 1) ∧ (n.Kind ≠ 2 → n.Kind ≠ 3 → x5 = 1)) (W.ite (fun hc => ?_) fun hc => W.ret ?_) fun x5 h5 => ?_)
  ·simp only [Bool.or_eq_true, beq_iff_eq] at hc
   obtain ⟨ea, a1, a2⟩ := val n.A (hA (by omega))
   obtain ⟨eb, b1, b2⟩ := val n.B (hB hc)
   rw [ea, Option.bind_some, eb, Option.bind_some, iteB_beq]
   split
   ·refine W.ret ⟨fun h => by omega, fun _ => ?_, fun _ h => by omega⟩
    rw [w64 (x := (gl x1 n.A : Int) + gl x1 n.B) (by omega) (by omega), w64 (by omega) (by omega)]
   ·refine W.ret ⟨fun h => ?_, fun _ => by omega, fun h h' => by omega⟩
    rw [w64 (by omega) (by omega)]
  ·simp only [Bool.or_eq_false_iff, beq_eq_false_iff_ne] at hc
   exact ⟨fun h => absurd h hc.1, fun h => absurd h hc.2, fun _ _ => rfl⟩
  refine W.bind (W.mono (Q := fun x8 => (n.Kind = 4 → x8 = (repW (gl x1) n : Int)) ∧ (n.Kind ≠ 4 → x8 = x5)) ?_ fun x8 h8 => ?_)
  ·rw [iteB_beq]
   split
   ·rename_i hk
    obtain ⟨ea, a1, a2⟩ := val n.A (hA (by omega))
    have hq := hRp hk
    rw [ea, Option.bind_some]
    obtain ⟨a, hga⟩ : ∃ a, gl x1 n.A = a := ⟨_, rfl⟩
    rw [hga] at ea a1 a2 ⊢
    refine W.iteP (fun hmx => ?_) fun hmx => W.ret ⟨fun _ => ?_, fun h => absurd hk h⟩
    ·rw [Option.bind_some]
     refine W.ret ⟨fun _ => ?_, fun h => absurd hk h⟩
     unfold repW
     rw [if_pos hmx, hga]
     obtain ⟨mv, hmv⟩ := Int.eq_ofNat_of_zero_le hmx
     have hm255 : mv ≤ 255 := by omega
     have hprod : (a + 1) * mv ≤ 1048577 * 255 := Nat.mul_le_mul (by omega) hm255
     rw [hmv, Int.toNat_natCast, w64 (x := (a : Int) + 1) (by omega) (by omega), show ((a : Int) + 1) * (mv : Int) = (((a + 1) * mv : Nat) : Int) by rw [Int.natCast_mul]; rfl, w64 (x := (((a + 1) * mv : Nat) : Int)) (by omega) (by omega), w64 (by omega) (by omega)]
     rfl
    ·unfold repW
     rw [if_neg hmx, hga]
     obtain ⟨mv, hmv⟩ := Int.eq_ofNat_of_zero_le hq.1
     have hm255 : mv + 1 ≤ 256 := by omega
     have hprod : (a + 1) * (mv + 1) ≤ 1048577 * 256 := Nat.mul_le_mul (by omega) hm255
     rw [hmv, Int.toNat_natCast, w64 (x := (a : Int) + 1) (by omega) (by omega), w64 (x := (mv : Int) + 1) (by omega) (by omega), show ((a : Int) + 1) * ((mv : Int) + 1) = (((a + 1) * (mv + 1) : Nat) : Int) by rw [Int.natCast_mul]; rfl, w64 (by omega) (by omega)]
   ·rename_i hk
    exact W.ret ⟨fun h => absurd h hk, fun _ => rfl⟩
  refine W.bind (W.mono (Q := fun x11 => x11 = (wtF (gl x1) n : Int)) ?_ fun x11 h11 => ?_)
  ·rw [iteB_beq]
   unfold wtF
   split
   ·rename_i hk
    obtain ⟨ea, a1, a2⟩ := val n.A (hA (by omega))
    rw [ea, Option.bind_some]
    refine W.ret ?_
    rw [if_neg (by omega), if_neg (by omega), if_neg (by omega)]
   ·rename_i hk
    refine W.ret ?_
    split
    ·rename_i hk2; rw [h8.2 (by omega), h5.1 hk2]; omega
    split
    ·rename_i hk3; rw [h8.2 (by omega), h5.2.1 hk3]; omega
    split
    ·rename_i hk4; exact h8.1 hk4
    rename_i k2 k3 k4
    rw [h8.2 k4, h5.2.2 k2 k3]; rfl
  have hpos : 1 ≤ wtF (gl x1) n := by
   unfold wtF
   split
   ·have := (val n.A (hA (by omega))).2.1; omega
   split
   ·omega
   split
   ·split
    ·omega
    ·exact Nat.mul_pos (by omega) (by omega)
   split
   ·exact (val n.A (hA (by omega))).2.1
   ·omega
  subst h11
  have hmn : mn (wtF (gl x1) n : Int) 1048576 = if (1048576 : Int) < (wtF (gl x1) n : Int) then 1048576 else (wtF (gl x1) n : Int) := rfl
  generalize hv : mn (wtF (gl x1) n : Int) 1048576 = v at hmn ⊢
  refine W.need (okN_of (by simp; omega) (by simp; omega)) (W.ret ⟨⟨i + 1, ?_, by omega, by simp; omega, ?_, ?_⟩, ?_⟩)
  ·simp only; exact ek64 (by omega)
  ·intro k u hk
   simp only at hk
   by_cases e : k < i
   ·rw [List.getElem?_append_left (by omega)] at hk
    exact G.bnd k u hk
   ·have := (List.getElem?_eq_some_iff.1 hk).1
    simp only [List.length_append, List.length_singleton] at this
    obtain rfl : k = i := by omega
    rw [List.getElem?_append_right (by omega), h2, Nat.sub_self] at hk
    obtain rfl : v = u := by simpa using hk
    rw [hmn]
    split <;> omega
  ·intro k m u hkm hk hlt
   simp only at hk ⊢
   have hmk := hmay k m hkm
   by_cases e : k < i
   ·rw [List.getElem?_append_left (by omega)] at hk
    rw [G.at_ k m u hkm hk hlt]
    congr 1
    exact wtF_congr (fun h => (gl_app (by have := hmk.2.2.1 h; omega) _).symm) fun h => (gl_app (by have := hmk.2.2.2.2.1 h; omega) _).symm
   ·have := (List.getElem?_eq_some_iff.1 hk).1
    simp only [List.length_append, List.length_singleton] at this
    obtain rfl : k = i := by omega
    rw [List.getElem?_append_right (by omega), h2, Nat.sub_self] at hk
    obtain rfl : v = u := by simpa using hk
    rw [hx] at hkm
    cases hkm
    rw [show wtF (gl (x1 ++ [v])) n = wtF (gl x1) n from wtF_congr (fun h => gl_app (by have := hmk.2.2.1 h; omega) _) fun h => gl_app (by have := hmk.2.2.2.2.1 h; omega) _]
    rw [hmn] at hlt
    rw [hmn]
    split
    ·rename_i h; rw [if_pos h] at hlt; omega
    ·rfl
  ·simp only; rw [ek64 (by omega)]; omega
 ·obtain ⟨hl1, G⟩ := hl
  have hk : r < l.length := by omega
  rw [ixV_get hk, Option.bind_some]
  have gv : ∀ k (h : k < l.length), l[k] = (gl l (k : Int) : Int) ∧ 1 ≤ gl l (k : Int) := by
   intro k h
   have hb := G.bnd k _ (List.getElem?_eq_getElem h)
   have e : gl l (k : Int) = l[k].toNat := by unfold gl; rw [Int.toNat_natCast, List.getD_eq_getElem?_getD, List.getElem?_eq_getElem h]; rfl
   rw [e]
   omega
  refine W.ret ⟨gl l, ⟨fun i hi => (gv i (by rw [Int.toNat_natCast] at hi; omega)).2, fun i n hi hn hlt => ?_⟩, (gv r hk).1⟩
  rw [Int.toNat_natCast] at hi
  have hil : i < l.length := by omega
  have := G.at_ i n _ hn (List.getElem?_eq_getElem hil) (by rw [(gv i hil).1]; omega)
  rw [(gv i hil).1] at this
  omega
end Go.Av.L
