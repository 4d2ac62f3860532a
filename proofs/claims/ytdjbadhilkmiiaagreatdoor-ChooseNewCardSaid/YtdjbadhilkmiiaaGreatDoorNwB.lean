/-
 A part.
-/
import Derived.Test.YtdjbadhilkmiiaaGreatDoorNwA
namespace Go.Av.L
open Go.Av Go.Lib
set_option linter.unusedVariables false
set_option linter.unusedSimpArgs false
theorem Un {i : Int} (h : 0 ≤ i) : TG (IntKind.u8.wrap i) = some (UInt8.ofNat (i.toNat % 256)) := by
 have e : IntKind.u8.wrap i = ((i.toNat % 256 : Nat) : Int) := by rw [IntKind.wrap_u8]; omega
 rw [e]
 unfold TG
 rw [if_pos (by omega), Int.toNat_natCast]
def KQ (n : List UInt8) : Bool :=
 n == [97, 108, 112, 104, 97] || (n == [100, 105, 103, 105, 116] || (n == [97, 108, 110, 117, 109] || (n == [117, 112, 112, 101, 114] || (n == [108, 111, 119, 101, 114] || (n == [120, 100, 105, 103, 105, 116] || (n == [98, 108, 97, 110, 107] || (n == [115, 112, 97, 99, 101] || (n == [99, 110, 116, 114, 108] || (n == [103, 114, 97, 112, 104] || (n == [112, 114, 105, 110, 116] || n == [112, 117, 110, 99, 116]))))))))))
theorem WE (n : List UInt8) : W (GD n) fun r => r.2 = KQ n := by
 have r : ∀ a b : Int, (0 ≤ a ∧ a ≤ 255) ∧ (0 ≤ b ∧ b ≤ 255) → W (CA a b) fun _ => True := fun a b h => Kn h.1 h.2
 unfold GD KQ
 refine W.any (r _ _ (by decide)) fun _ => W.any (r _ _ (by decide)) fun _ => W.any (r _ _ (by decide)) fun _ => W.any (J8 _ _) fun _ => W.any (J8 _ _) fun _ => ?_
 refine W.ite (fun e => W.any (J8 _ _) fun _ => W.ret (by simp only [e, Bool.true_or])) fun e1 => ?_
 rw [e1, Bool.false_or]
 refine W.ite (fun e => W.ret (by simp only [e, Bool.true_or])) fun e1 => ?_
 rw [e1, Bool.false_or]
 refine W.ite (fun e => W.ret (by simp only [e, Bool.true_or])) fun e1 => ?_
 rw [e1, Bool.false_or]
 refine W.ite (fun e => W.ret (by simp only [e, Bool.true_or])) fun e1 => ?_
 rw [e1, Bool.false_or]
 refine W.ite (fun e => W.ret (by simp only [e, Bool.true_or])) fun e1 => ?_
 rw [e1, Bool.false_or]
 refine W.ite (fun e => W.any (r _ _ (by decide)) fun _ => W.any (J8 _ _) fun _ => W.any (r _ _ (by decide)) fun _ => W.any (J8 _ _) fun _ => W.ret (by simp only [e, Bool.true_or])) fun e1 => ?_
 rw [e1, Bool.false_or]
 refine W.ite (fun e => W.any (Tj _ (by simp)) fun _ => W.ret (by simp only [e, Bool.true_or])) fun e1 => ?_
 rw [e1, Bool.false_or]
 refine W.ite (fun e => W.any (r _ _ (by decide)) fun _ => W.any (Tj _ (by simp)) fun _ => W.any (J8 _ _) fun _ => W.ret (by simp only [e, Bool.true_or])) fun e1 => ?_
 rw [e1, Bool.false_or]
 refine W.ite (fun e => W.any (r _ _ (by decide)) fun _ => W.any (Tj _ (by simp)) fun _ => W.any (J8 _ _) fun _ => W.ret (by simp only [e, Bool.true_or])) fun e1 => ?_
 rw [e1, Bool.false_or]
 refine W.ite (fun e => W.any (r _ _ (by decide)) fun _ => W.ret (by simp only [e, Bool.true_or])) fun e1 => ?_
 rw [e1, Bool.false_or]
 refine W.ite (fun e => W.any (r _ _ (by decide)) fun _ => W.ret (by simp only [e, Bool.true_or])) fun e1 => ?_
 rw [e1, Bool.false_or]
 exact W.ite (fun e => W.any (r _ _ (by decide)) fun _ => W.any (Tt _) fun _ => W.any (WM _ _) fun _ => W.ret e.symm) fun e1 => W.ret e1.symm
theorem Pj {a b : Int} (ha : 0 ≤ a) (ha' : a ≤ 256) (hb : b ≤ 255) : W (BJ a b) fun r => r.length ≤ 256 := by
 unfold BJ
 refine W.bind (W.mono (W.loop (fun s => 0 ≤ s.2 ∧ s.2 ≤ 256 ∧ (s.1.length : Int) ≤ s.2) (fun s => (256 - s.2).toNat) ⟨ha, ha', by simpa using ha⟩ ?_ (Q := fun r => r.length ≤ 256)) fun r hr => W.ret hr)
 rintro ⟨x1, x2⟩ ⟨h0, h1, h2⟩
 simp only at h0 h1 h2
 unfold Eg
 refine W.Mu (fun hl => ?_) fun _ => W.ret (by omega)
 rw [Un h0, Option.bind_some]
 refine W.Ca (decide_eq_true (by simp only [List.length_cons, List.length_nil]; omega)) (W.ret ?_)
 simp only [List.length_append, List.length_cons, List.length_nil]
 rw [J4 (by omega) (by omega)]
 omega
theorem VZ (c : Int) {s : List UInt8} (hs : s.length ≤ 1099511627776) : W (D7 c s) fun _ => True := by
 unfold D7
 refine W.bind (W.mono (W.list (l := s) (enc := fun (_ : Unit) i => (i : Int)) (P := fun _ _ => True) (Q := fun _ => True) ?_ ?_ () trivial) fun r _ => ?_)
 ·intro _ _
  rw [Et, BH, if_neg (by omega)]
  exact W.ret trivial
 ·intro _ i hi _
  rw [Et, BH, if_pos (by omega), CP hi, Option.bind_some]
  exact W.ite (fun _ => W.ret trivial) fun _ => W.ret ⟨(), Ff (by omega), trivial⟩
 ·cases r
  ·exact W.ret trivial
  ·exact W.ret trivial
theorem N1 {a s : List UInt8} (ha : a.length ≤ 1099511627776) (hs : s.length ≤ 1099511627776) : W (Cd a s) fun r => r.length ≤ a.length := by
 unfold Cd
 refine W.bind (W.mono (W.list (l := a) (enc := fun (x : List UInt8) i => (x, (i : Int))) (P := fun x i => x.length ≤ i) (Q := fun r => r.length ≤ a.length) ?_ ?_ [] (by simp)) fun r hr => W.ret hr)
 ·intro x hx
  rw [Dd, BH, if_neg (by omega)]
  exact W.ret hx
 ·intro x i hi hx
  rw [Dd, BH, if_pos (by omega), CP hi, Option.bind_some]
  refine W.bind (W.mono (Q := fun r => r.length ≤ i + 1) (W.any (VZ _ hs) fun b => W.ite (fun _ => ?_) fun _ => W.ret (by omega)) fun r hr => ?_)
  ·rw [Ff (by omega), II (by omega) (by omega), Option.bind_some]
   refine W.Ca (decide_eq_true (by rw [List.length_take]; omega)) (W.ret ?_)
   rw [List.length_append, List.length_take]
   omega
  ·exact W.ret ⟨r, by rw [Ff (by omega)], hr⟩
theorem S9 {s : List UInt8} (hs : s.length ≤ 1099511627776) : W (C8 s) fun _ => True := by
 unfold C8
 refine W.bind (W.mono (W.loop (fun x => 0 ≤ x.2 ∧ x.2 ≤ 256 ∧ (x.1.length : Int) ≤ x.2) (fun x => (256 - x.2).toNat) ⟨by decide, by decide, by decide⟩ ?_ (Q := fun _ => True)) fun r _ => W.ret trivial)
 rintro ⟨x1, x2⟩ ⟨h0, h1, h2⟩
 simp only at h0 h1 h2
 unfold Ez
 refine W.Mu (fun hl => ?_) fun _ => W.ret trivial
 refine W.bind (W.mono (Q := fun r => (r.length : Int) ≤ x2 + 1) (W.any (VZ _ hs) fun b => W.ite (fun _ => ?_) fun _ => W.ret (by omega)) fun r hr => ?_)
 ·rw [Un h0, Option.bind_some]
  refine W.Ca (decide_eq_true (by simp only [List.length_cons, List.length_nil]; omega)) (W.ret ?_)
  simp only [List.length_append, List.length_cons, List.length_nil]
  omega
 ·refine W.ret ?_
  simp only
  rw [J4 (by omega) (by omega)]
  omega
theorem Vg (n : List UInt8) : W (D2 n) fun r => r.2 = KQ n ∧ r.1.length ≤ 1000 := by
 have b : ∀ a b : Int, (0 ≤ a ∧ a ≤ 256 ∧ b ≤ 255) → W (BJ a b) fun r => r.length ≤ 256 := fun a b h => Pj h.1 h.2.1 h.2.2
 unfold D2 KQ
 refine W.bind ((b _ _ (by decide)).mono fun x1 l1 => W.bind ((b _ _ (by decide)).mono fun x2 l2 => W.bind ((b _ _ (by decide)).mono fun x3 l3 => ?_)))
 have a12 : (x1 ++ x2).length = x1.length + x2.length := List.length_append
 have a31 : (x3 ++ x1).length = x3.length + x1.length := List.length_append
 have a312 : ((x3 ++ x1) ++ x2).length = (x3 ++ x1).length + x2.length := List.length_append
 refine W.ite (fun e => W.Ca (decide_eq_true (by omega)) (W.ret ⟨by simp only [e, Bool.true_or], by simp only; omega⟩)) fun e1 => ?_
 rw [e1, Bool.false_or]
 refine W.ite (fun e => W.ret ⟨by simp only [e, Bool.true_or], by simp only; omega⟩) fun e1 => ?_
 rw [e1, Bool.false_or]
 refine W.ite (fun e => W.Ca (decide_eq_true (by omega)) (W.Ca (decide_eq_true (by omega)) (W.ret ⟨by simp only [e, Bool.true_or], by simp only; omega⟩))) fun e1 => ?_
 rw [e1, Bool.false_or]
 refine W.ite (fun e => W.ret ⟨by simp only [e, Bool.true_or], by simp only; omega⟩) fun e1 => ?_
 rw [e1, Bool.false_or]
 refine W.ite (fun e => W.ret ⟨by simp only [e, Bool.true_or], by simp only; omega⟩) fun e1 => ?_
 rw [e1, Bool.false_or]
 refine W.ite (fun e => W.ret ⟨by simp only [e, Bool.true_or], by simp⟩) fun e1 => ?_
 rw [e1, Bool.false_or]
 refine W.ite (fun e => W.ret ⟨by simp only [e, Bool.true_or], by simp⟩) fun e1 => ?_
 rw [e1, Bool.false_or]
 refine W.ite (fun e => W.ret ⟨by simp only [e, Bool.true_or], by simp⟩) fun e1 => ?_
 rw [e1, Bool.false_or]
 refine W.ite (fun e => W.bind ((b _ _ (by decide)).mono fun x4 l4 => W.Ca (decide_eq_true (by simp only [List.length_cons, List.length_nil]; omega)) (W.ret ⟨by simp only [e, Bool.true_or], by simp only [List.length_append, List.length_cons, List.length_nil]; omega⟩))) fun e1 => ?_
 rw [e1, Bool.false_or]
 refine W.ite (fun e => W.bind ((b _ _ (by decide)).mono fun x4 l4 => W.ret ⟨by simp only [e, Bool.true_or], by simp only; omega⟩)) fun e1 => ?_
 rw [e1, Bool.false_or]
 refine W.ite (fun e => W.bind ((b _ _ (by decide)).mono fun x4 l4 => W.ret ⟨by simp only [e, Bool.true_or], by simp only; omega⟩)) fun e1 => ?_
 rw [e1, Bool.false_or]
 refine W.ite (fun e => W.bind ((b _ _ (by decide)).mono fun x4 l4 => W.Ca (decide_eq_true (by omega)) (W.Ca (decide_eq_true (by omega)) (W.bind ((N1 (by omega) (by omega)).mono fun x8 l8 => W.ret ⟨e.symm, by simp only; omega⟩))))) fun e1 => W.ret ⟨e1.symm, by simp⟩
theorem K0 {s w : List UInt8} (hw : w ≠ []) (i : Nat) : occAt s w i = (decide (i + w.length ≤ s.length) && ((s.drop i).take w.length == w)) := by
 unfold occAt
 rw [Bool.eq_iff_iff, List.isPrefixOf_iff_prefix, List.prefix_iff_eq_take, Bool.and_eq_true, decide_eq_true_eq, beq_iff_eq]
 have hp : 0 < w.length := List.length_pos_iff.2 hw
 constructor
 ·intro h
  have hl := congrArg List.length h
  rw [List.length_take, List.length_drop] at hl
  exact ⟨by omega, h.symm⟩
 ·exact fun h => h.2.symm
theorem Fe {s w : List UInt8} (hw : w ≠ []) {i : Nat} (h : occAt s w i = true) : i + w.length ≤ s.length := by
 rw [K0 hw] at h
 simp only [Bool.and_eq_true, decide_eq_true_eq] at h
 exact h.1
theorem ER {s w : List UInt8} (hw : w ≠ []) {i : Nat} (hi : i ≤ 1099511627776) (hl : w.length ≤ 8) : BC s (i : Int) w = some (occAt s w i) := by
 unfold BC
 rw [J4 (by omega) (by omega), BH, K0 hw]
 by_cases h : i + w.length ≤ s.length
 ·rw [if_pos (by omega), show (i : Int) + (w.length : Int) = ((i + w.length : Nat) : Int) by omega, II (by omega) h, Option.bind_some, Option.bind_some, decide_eq_true h, Bool.true_and, Nat.add_sub_cancel_left]
 ·rw [if_neg (by omega), Option.bind_some, decide_eq_false h, Bool.false_and]
theorem N2 {s w : List UInt8} (hw : w ≠ []) {i : Nat} (hi : i ≤ s.length) : B7 (s.drop i) w = some (occAt s w i) := by
 unfold B7 D8
 rw [BH, K0 hw, List.length_drop]
 by_cases h : i + w.length ≤ s.length
 ·rw [if_pos (by omega), SU (by rw [List.length_drop]; omega), Option.bind_some, Option.bind_some, Option.bind_some, decide_eq_true h, Bool.true_and]
 ·rw [if_neg (by omega), Option.bind_some, Option.bind_some, decide_eq_false h, Bool.false_and]
theorem LJ {s w : List UInt8} (hw : w ≠ []) (h8 : w.length ≤ 8) (hs : s.length ≤ 8192) {i : Nat} (hi : i ≤ s.length) (gl : Bool) (z : Ad) : CM ⟨s, (i : Int), gl, z⟩ w = some (occAt s w i, ⟨s, ((bif occAt s w i then i + w.length else i : Nat) : Int), gl, z⟩) := by
 unfold CM
 dsimp only
 rw [L4 hi, Option.bind_some, N2 hw hi, Option.bind_some]
 cases h : occAt s w i
 ·rfl
 ·rw [Bool.not_true, AX, J4 (by omega) (by omega), show (i : Int) + (w.length : Int) = ((i + w.length : Nat) : Int) by omega]
  rfl
def MP (s : List UInt8) (i : Nat) : Option (UInt8 × Nat) :=
 bif occAt s [91, 46] i then (bif occAt s [46, 93] (i + 3) then (s[i + 2]?).map fun b => (b, i + 5) else none)
 else (s[bif occAt s [92] i then i + 1 else i]?).map fun b => (b, (bif occAt s [92] i then i + 1 else i) + 1)
theorem MJ {s : List UInt8} {i : Nat} {b : UInt8} {k : Nat} (h : MP s i = some (b, k)) : i < k ∧ k ≤ s.length := by
 unfold MP at h
 cases h1 : occAt s [91, 46] i
 ·rw [h1, cond_false] at h
  rw [Option.map_eq_some_iff] at h
  obtain ⟨c, hc, e⟩ := h
  have := (List.getElem?_eq_some_iff.1 hc).1
  cases h2 : occAt s [92] i <;> simp only [h2, cond_true, cond_false, Prod.mk.injEq] at e this <;> omega
 ·rw [h1, cond_true] at h
  cases h2 : occAt s [46, 93] (i + 3)
  ·rw [h2] at h; cases h
  ·rw [h2, cond_true, Option.map_eq_some_iff] at h
   obtain ⟨c, hc, e⟩ := h
   have := Fe (by simp) h2
   simp only [List.length_cons, List.length_nil, Prod.mk.injEq] at this e
   omega
theorem Pb {s : List UInt8} (hs : s.length ≤ 8192) {i : Nat} (hi : i ≤ s.length) : W (Dl s (i : Int) true) fun r => match MP s i with | some (b, k) => r = ((b.toNat : Int), (k : Int)) | none => r.1 = -1 := by
 unfold Dl MP
 rw [ER (by simp) (by omega) (by simp), Option.bind_some]
 cases h1 : occAt s [91, 46] i with
 | true =>
  rw [BT, cond_true, J4 (x := (i : Int) + 4) (by omega) (by omega), J4 (x := (i : Int) + 3) (by omega) (by omega), J4 (x := (i : Int) + 2) (by omega) (by omega), J4 (x := (i : Int) + 5) (by omega) (by omega)]
  rw [show (i : Int) + 3 = ((i + 3 : Nat) : Int) by omega, ER (by simp) (by omega) (by simp), Option.bind_some]
  have e : Ac (decide ((i : Int) + 4 < (s.length : Int))) (some (occAt s [46, 93] (i + 3))) (some false) = some (occAt s [46, 93] (i + 3)) := by
   rw [BH]
   split
   ·rfl
   ·cases h2 : occAt s [46, 93] (i + 3)
    ·rfl
    ·have := Fe (by simp) h2
     simp only [List.length_cons, List.length_nil] at this
     omega
  rw [e, Option.bind_some]
  cases h2 : occAt s [46, 93] (i + 3) with
  | false => exact W.ret rfl
  | true =>
   have := Fe (by simp) h2
   simp only [List.length_cons, List.length_nil] at this
   rw [BT, cond_true, show (i : Int) + 2 = ((i + 2 : Nat) : Int) by omega, CP (by omega), Option.bind_some, List.getElem?_eq_getElem (by omega)]
   have hb := Gy s[i + 2]
   rw [J4 (by omega) (by omega)]
   exact W.ret rfl
 | false =>
  rw [AX, cond_false, BT, ER (by simp) (by omega) (by simp), Option.bind_some, Option.bind_some]
  have e : Ac (occAt s [92] i) (some (IntKind.i64.wrap ((i : Int) + 1))) (some (i : Int)) = some (((bif occAt s [92] i then i + 1 else i : Nat)) : Int) := by
   cases occAt s [92] i
   ·rfl
   ·rw [BT, Ff (by omega)]; rfl
  rw [e, Option.bind_some]
  generalize hj : (bif occAt s [92] i then i + 1 else i : Nat) = j
  have hj' : j ≤ s.length + 1 := by cases h2 : occAt s [92] i <;> rw [h2] at hj <;> simp only [cond_true, cond_false] at hj <;> omega
  rw [BH]
  by_cases hl : j < s.length
  ·have hb := Gy s[j]
   rw [if_neg (by omega), CP hl, Option.bind_some, List.getElem?_eq_getElem hl, J4 (x := (s[j].toNat : Int)) (by omega) (by omega), Ff (by omega)]
   exact W.ret rfl
  ·rw [if_pos (by omega), List.getElem?_eq_none (by omega)]
   exact W.ret rfl
theorem SH {s : List UInt8} (hs : s.length ≤ 8192) {i : Nat} (hi : i ≤ s.length) (z : Ad) : W (DY ⟨s, (i : Int), true, z⟩) fun r => match MP s i with | some (b, k) => r = ((b.toNat : Int), true, ⟨s, (k : Int), true, z⟩) | none => r.2.1 = false := by
 unfold DY MP
 rw [LJ (by simp) (by simp) hs hi, Option.bind_some]
 cases h1 : occAt s [91, 46] i with
 | true =>
  have hle := Fe (by simp) h1
  simp only [List.length_cons, List.length_nil] at hle
  simp only [BT, cond_true, List.length_cons, List.length_nil]
  unfold Co
  simp only
  rw [J4 (x := ((i + (0 + 1 + 1) : Nat) : Int) + 3) (by omega) (by omega), J4 (x := ((i + (0 + 1 + 1) : Nat) : Int) + 1) (by omega) (by omega)]
  have e : Ac (decide (((i + (0 + 1 + 1) : Nat) : Int) + 3 > (s.length : Int))) (some true) ((HX s (some (((i + (0 + 1 + 1) : Nat) : Int) + 1)) (some (((i + (0 + 1 + 1) : Nat) : Int) + 3))).bind fun x2 => some (!(x2 == ([46, 93] : List UInt8)))) = some (!(occAt s [46, 93] (i + 3))) := by
   rw [BH, K0 (by simp)]
   simp only [List.length_cons, List.length_nil]
   split
   ·rw [decide_eq_false (by omega)]; rfl
   ·rw [decide_eq_true (by omega), show ((i + (0 + 1 + 1) : Nat) : Int) + 1 = ((i + 3 : Nat) : Int) by omega, show ((i + (0 + 1 + 1) : Nat) : Int) + 3 = ((i + 5 : Nat) : Int) by omega, II (by omega) (by omega), Option.bind_some, Bool.true_and, show i + 5 - (i + 3) = 0 + 1 + 1 by omega]
  rw [e, Option.bind_some]
  cases h2 : occAt s [46, 93] (i + 3) with
  | false => exact W.ret rfl
  | true =>
   have := Fe (by simp) h2
   simp only [List.length_cons, List.length_nil] at this
   rw [Bool.not_true, AX, CP (by omega), Option.bind_some, cond_true, List.getElem?_eq_getElem (by omega), show ((i + (0 + 1 + 1) : Nat) : Int) + 3 = ((i + 5 : Nat) : Int) by omega]
   exact W.ret rfl
 | false =>
  simp only [AX, cond_false, BT]
  rw [LJ (by simp) (by simp) hs hi, Option.bind_some]
  simp only [List.length_cons, List.length_nil, Nat.zero_add, Option.bind_some]
  generalize hj : (bif occAt s [92] i then i + 1 else i : Nat) = j
  have hj' : j ≤ s.length + 1 := by cases h2 : occAt s [92] i <;> rw [h2] at hj <;> simp only [cond_true, cond_false] at hj <;> omega
  rw [BH]
  by_cases hl : j < s.length
  ·rw [if_neg (by omega), Ff (by omega), J4 (by omega) (by omega), show ((j + 1 : Nat) : Int) - 1 = (j : Int) by omega, CP hl, Option.bind_some, List.getElem?_eq_getElem hl]
   exact W.ret rfl
  ·rw [if_pos (by omega), List.getElem?_eq_none (by omega)]
   exact W.ret rfl
end Go.Av.L
