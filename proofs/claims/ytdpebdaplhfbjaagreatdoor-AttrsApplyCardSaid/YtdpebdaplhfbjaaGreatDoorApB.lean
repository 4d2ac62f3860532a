/-
  AttrsApply: stamps, as both read them.
-/
import Derived.Test.YtdpebdaplhfbjaaGreatDoorApA
namespace Go.Av.L
open Go.Av Go.Lib
set_option linter.unusedVariables false
set_option linter.unusedSimpArgs false
def mrest : List UInt8 → List UInt8 × Bool
 | [] => ([], false)
 | c :: t => if c = 45 then (t, true) else (c :: t, false)
theorem cutp_ok (s : List UInt8) : M_strings_CutPrefix s ([45] : List UInt8) = some (mrest s) := by
 unfold M_strings_CutPrefix M_stringslite_CutPrefix M_stringslite_HasPrefix
 cases s with
 | nil => rfl
 | cons c t =>
  have e1 : subS (c :: t) none (some ((([45] : List UInt8).length : Nat) : Int)) = some [c] := subS_hi (s := c :: t) (i := 1) (by simp)
  have e2 : subS (c :: t) (some ((([45] : List UInt8).length : Nat) : Int)) none = some t := subS_lo (s := c :: t) (i := 1) (by simp)
  rw [decide_eq_true (show (((c :: t).length : Nat) : Int) ≥ (([45] : List UInt8).length : Int) by simp only [List.length_cons, List.length_nil]; omega), iteB_true, e1, e2]
  simp only [Option.bind_some]
  have hm : mrest (c :: t) = if c = 45 then (t, true) else (c :: t, false) := rfl
  rw [hm]
  by_cases h : c = 45
  ·subst h; rfl
  ·rw [if_neg h, show (([c] : List UInt8) == [45]) = false from by rw [beq_eq_false_iff_ne]; intro e; exact h (by injection e)]
   rfl
theorem cut46 {a r : List UInt8} (h : (46 : UInt8) ∉ a) : Lib.cut (a ++ 46 :: r) [46] = (a, r, true) := by
 have hi : Lib.index (a ++ 46 :: r) [46] = (a.length : Int) := by
  refine Lib.index_first (by simp) ?_ fun j hj => ?_
  ·unfold Lib.occAt
   simp [List.isPrefixOf]
  ·unfold Lib.occAt
   rw [List.drop_append_of_le_length (by omega), List.drop_eq_getElem_cons hj]
   have : (46 : UInt8) ≠ a[j] := fun e => h (by rw [e]; exact List.getElem_mem hj)
   rw [List.cons_append]
   simp [List.isPrefixOf, this]
 unfold Lib.cut
 rw [hi, if_pos (by omega)]
 simp
theorem index_none : ∀ {s : List UInt8}, (46 : UInt8) ∉ s → Lib.index s [46] = -1
 | [], _ => rfl
 | b :: s, h => by
  have h1 : (46 : UInt8) ≠ b := fun e => h (by rw [e]; exact .head _)
  have ih := index_none (s := s) fun e => h (.tail _ e)
  unfold Lib.index
  rw [ih]
  simp [List.isPrefixOf, h1]
theorem cutN {s : List UInt8} (h : (46 : UInt8) ∉ s) : Lib.cut s [46] = (s, [], false) := by
 unfold Lib.cut
 rw [index_none h, if_neg (by decide)]
theorem split46 (s : List UInt8) : (46 : UInt8) ∉ s ∨ ∃ a b, s = a ++ 46 :: b ∧ (46 : UInt8) ∉ a := by
 induction s with
 | nil => exact .inl (by simp)
 | cons c s ih =>
  by_cases h : c = 46
  ·exact .inr ⟨[], s, by rw [h]; rfl, by simp⟩
  ·rcases ih with ih | ⟨a, b, e, ha⟩
   ·refine .inl fun hm => ?_
    rcases List.mem_cons.1 hm with e | e
    ·exact h e.symm
    ·exact ih e
   ·refine .inr ⟨c :: a, b, by rw [e]; rfl, fun hm => ?_⟩
    rcases List.mem_cons.1 hm with e | e
    ·exact h e.symm
    ·exact ha e
theorem whole_at {s : List UInt8} {k : Nat} (hk : ∀ j, j ≤ k → s[j]? ≠ some 46) : (Lib.cut s [46]).1[k]? = s[k]? := by
 rcases split46 s with h | ⟨a, b, rfl, ha⟩
 ·rw [cutN h]
 ·rw [cut46 ha]
  show a[k]? = (a ++ 46 :: b)[k]?
  by_cases hlt : k < a.length
  ·rw [List.getElem?_append_left hlt]
  ·exfalso
   refine hk a.length (by omega) ?_
   rw [List.getElem?_append_right (by omega), Nat.sub_self]
   rfl
def dspec (s : List UInt8) (most : Nat) : Int × Bool := if s.length = 0 ∨ s.length > most then (0, false) else if s.all isD = true then ((dval (s.take 16) : Int), true) else (0, false)
theorem sdig_loop {s : List UInt8} (hs : s.length ≤ 1000) : Av.loop (M_stamp_digits_L0 s) ((0 : Int), (0 : Int)) = some (if s.all isD = true then .inl (dval (s.take 16) : Int) else .inr ((0 : Int), false)) := by
 refine W.eq (W.list (l := s) (fun (v : Nat) (i : Nat) => ((v : Int), (i : Int))) (fun v i => v = dval ((s.take i).take 16) ∧ (s.take i).all isD = true) ?_ ?_ 0 ⟨rfl, rfl⟩)
 ·rintro v ⟨hv, ha⟩
  unfold M_stamp_digits_L0
  refine W.iteP (fun h => by omega) fun _ => W.ret ?_
  rw [List.take_length] at hv ha
  rw [if_pos ha, hv]
 ·rintro v i hi ⟨hv, ha⟩
  unfold M_stamp_digits_L0
  refine W.iteP (fun _ => ?_) fun h => by omega
  try simp only []
  rw [ixS_get hi]
  simp only [Option.bind_some]
  rw [iteB_or, Option.bind_some, notD]
  cases hd : isD s[i] with
  | false =>
   rw [Bool.not_false, iteB_true, Option.bind_some]
   refine W.ret ?_
   rw [if_neg (by rw [not_all hi hd]; decide)]
  | true =>
   rw [Bool.not_true, iteB_false]
   have hb := isD_b hd
   have ha16 : ((s.take i).take 16).all isD = true := by
    rw [List.all_eq_true] at ha ⊢
    exact fun x hx => ha x (List.mem_of_mem_take hx)
   by_cases h16 : i < 16
   ·have htt : (s.take i).take 16 = s.take i := List.take_of_length_le (by rw [List.length_take]; omega)
    rw [htt] at hv
    have hlt := dval16 ha (by rw [List.length_take]; omega)
    rw [← hv] at hlt
    rw [decide_eq_true (by omega), iteB_true, Option.bind_some]
    refine W.ret ⟨dig v s[i], ?_, ?_, take_all hi ha hd⟩
    ·rw [ek64 (by omega), w64 (x := (10 : Int) * (v : Int)) (by omega) (by omega), wu8 (by omega) (by omega), w64 (x := (s[i].toNat : Int) - 48) (by omega) (by omega), w64 (by omega) (by omega)]
     unfold dig
     refine Prod.ext ?_ rfl
     show (10 : Int) * v + (s[i].toNat - 48) = ((10 * v + (s[i].toNat - 48) : Nat) : Int)
     omega
    ·rw [List.take_of_length_le (l := s.take (i + 1)) (by rw [List.length_take]; omega), take_snoc (List.getElem?_eq_getElem hi), dval_snoc, ← hv]
     rfl
   ·rw [decide_eq_false (by omega), iteB_false, Option.bind_some]
    refine W.ret ⟨v, by rw [ek64 (by omega)], ?_, take_all hi ha hd⟩
    rw [hv, List.take_take, List.take_take]
    congr 1
    rw [Nat.min_eq_left (by omega), Nat.min_eq_left (by omega)]
theorem sdig_ok (s : List UInt8) (most : Nat) (hs : s.length ≤ 1000) : M_stamp_digits s (most : Int) = some (dspec s most) := by
 unfold M_stamp_digits dspec
 by_cases h : s.length = 0 ∨ s.length > most
 ·rw [if_pos h, show (((s.length : Int) == 0) || decide ((s.length : Int) > (most : Int))) = true from by rw [Bool.or_eq_true, beq_iff_eq, decide_eq_true_eq]; omega, iteB_true]
 ·rw [if_neg h, show (((s.length : Int) == 0) || decide ((s.length : Int) > (most : Int))) = false from by rw [Bool.or_eq_false_iff, beq_eq_false_iff_ne, decide_eq_false_iff_not]; omega, iteB_false, sdig_loop hs, Option.bind_some]
  by_cases ha : s.all isD = true
  ·rw [if_pos ha, if_pos ha]
  ·rw [if_neg ha, if_neg ha]
theorem digit_ok (c : UInt8) : M_boulterref04_digit (c.toNat : Int) = some (isD c) := by
 unfold M_boulterref04_digit isD
 congr 1
 rw [Bool.eq_iff_iff, Bool.and_eq_true, Bool.and_eq_true]
 simp only [decide_eq_true_eq]
 omega
theorem drop_take_all {s : List UInt8} {o n : Nat} (h : o + n < s.length) (ha : ((s.drop o).take n).all isD = true) (hd : isD s[o + n] = true) : ((s.drop o).take (n + 1)).all isD = true := by
 have hn : n < (s.drop o).length := by rw [List.length_drop]; omega
 refine take_all hn ha ?_
 rw [List.getElem_drop]
 exact hd
theorem drop_take_snoc {s : List UInt8} {o n : Nat} (h : o + n < s.length) : (s.drop o).take (n + 1) = (s.drop o).take n ++ [s[o + n]] :=
 take_snoc (by rw [List.getElem?_drop, List.getElem?_eq_getElem h])
theorem r0_loop {s : List UInt8} {o : Nat} (ho : o ≤ s.length) (hs : s.length ≤ 1000) : W (Av.loop (M_boulterref04_Parse_L0 s) ((o : Int), (0 : Int), (0 : Int))) fun r => ∃ n : Nat, o + n ≤ s.length ∧ n ≤ 17 ∧ ((s.drop o).take n).all isD = true ∧
  r = (((o + n : Nat) : Int), (dval ((s.drop o).take n) : Int), (n : Int)) ∧ (n = 17 ∨ o + n = s.length ∨ ∃ h : o + n < s.length, isD s[o + n] = false) := by
 refine W.loop (fun u => ∃ n : Nat, o + n ≤ s.length ∧ n ≤ 17 ∧ ((s.drop o).take n).all isD = true ∧ u = (((o + n : Nat) : Int), (dval ((s.drop o).take n) : Int), (n : Int))) (fun u => (s.length - u.1).toNat) ⟨0, by omega, by omega, rfl, rfl⟩ ?_
 rintro _ ⟨n, h1, h2, h3, rfl⟩
 unfold M_boulterref04_Parse_L0
 simp only []
 by_cases hlt : o + n < s.length
 ·rw [decide_eq_true (by omega), iteB_true, ixS_get hlt, Option.bind_some, digit_ok, Option.bind_some, Option.bind_some, Option.bind_some]
  cases hd : isD s[o + n] with
  | false => exact W.ret ⟨n, h1, h2, h3, rfl, .inr (.inr ⟨hlt, hd⟩)⟩
  | true =>
   rw [Bool.true_and]
   refine W.iteP (fun h17 => ?_) fun h17 => W.ret ⟨n, h1, h2, h3, rfl, .inl (by omega)⟩
   have hb := isD_b hd
   have hv := dval16 h3 (by rw [List.length_take]; omega)
   rw [ek64 (by omega), ek64 (by omega), w64 (x := (10 : Int) * _) (by omega) (by omega), w64 (x := (s[o + n].toNat : Int)) (by omega) (by omega), w64 (x := (10 : Int) * _ + (s[o + n].toNat : Int)) (by omega) (by omega), w64 (by omega) (by omega)]
   refine W.ret ⟨⟨n + 1, by omega, by omega, drop_take_all hlt h3 hd, ?_⟩, ?_⟩
   ·refine Prod.ext ?_ (Prod.ext ?_ ?_)
    ·show ((o + n + 1 : Nat) : Int) = ((o + (n + 1) : Nat) : Int)
     rfl
    ·show (10 : Int) * (dval ((s.drop o).take n) : Int) + s[o + n].toNat - 48 = _
     rw [drop_take_snoc hlt, dval_snoc]
     dsimp only
     omega
    ·rfl
   ·simp only []
    omega
 ·rw [decide_eq_false (by omega), iteB_false, Option.bind_some, Bool.false_and, iteB_false]
  exact W.ret ⟨n, h1, h2, h3, rfl, .inr (.inl (by omega))⟩
theorem r1_loop {s : List UInt8} {o : Nat} (ho : o ≤ s.length) (hs : s.length ≤ 1000) : W (Av.loop (M_boulterref04_Parse_L1 s) ((o : Int), (0 : Int), (0 : Int))) fun r => ∃ n : Nat, o + n ≤ s.length ∧ ((s.drop o).take n).all isD = true ∧
  r = (((o + n : Nat) : Int), (dval (((s.drop o).take n).take 9) : Int), (n : Int)) ∧ (o + n = s.length ∨ ∃ h : o + n < s.length, isD s[o + n] = false) := by
 refine W.loop (fun u => ∃ n : Nat, o + n ≤ s.length ∧ ((s.drop o).take n).all isD = true ∧ u = (((o + n : Nat) : Int), (dval (((s.drop o).take n).take 9) : Int), (n : Int))) (fun u => (s.length - u.1).toNat) ⟨0, by omega, rfl, rfl⟩ ?_
 rintro _ ⟨n, h1, h3, rfl⟩
 unfold M_boulterref04_Parse_L1
 simp only []
 by_cases hlt : o + n < s.length
 ·rw [decide_eq_true (by omega), iteB_true, ixS_get hlt]
  simp only [Option.bind_some]
  rw [digit_ok, Option.bind_some, Option.bind_some]
  cases hd : isD s[o + n] with
  | false => exact W.ret ⟨n, h1, h3, rfl, .inr ⟨hlt, hd⟩⟩
  | true =>
   rw [iteB_true]
   have hb := isD_b hd
   have hln : ((s.drop o).take n).length = n := by rw [List.length_take, List.length_drop]; omega
   by_cases h9 : n < 9
   ·have htt : ((s.drop o).take n).take 9 = (s.drop o).take n := List.take_of_length_le (by omega)
    have hv := dval16 h3 (by omega)
    rw [decide_eq_true (by omega), iteB_true, Option.bind_some, htt, ek64 (by omega), ek64 (by omega), w64 (x := (10 : Int) * _) (by omega) (by omega), w64 (x := (s[o + n].toNat : Int)) (by omega) (by omega), w64 (x := (10 : Int) * _ + (s[o + n].toNat : Int)) (by omega) (by omega), w64 (by omega) (by omega)]
    refine W.ret ⟨⟨n + 1, by omega, drop_take_all hlt h3 hd, ?_⟩, ?_⟩
    ·refine Prod.ext rfl (Prod.ext ?_ rfl)
     show (10 : Int) * (dval ((s.drop o).take n) : Int) + s[o + n].toNat - 48 = _
     rw [List.take_of_length_le (l := (s.drop o).take (n + 1)) (by rw [List.length_take]; omega), drop_take_snoc hlt, dval_snoc]
     dsimp only
     omega
    ·simp only []
     omega
   ·rw [decide_eq_false (by omega), iteB_false, Option.bind_some, ek64 (by omega), ek64 (by omega)]
    refine W.ret ⟨⟨n + 1, by omega, drop_take_all hlt h3 hd, ?_⟩, ?_⟩
    ·refine Prod.ext rfl (Prod.ext ?_ rfl)
     show (dval (((s.drop o).take n).take 9) : Int) = (dval (((s.drop o).take (n + 1)).take 9) : Int)
     rw [List.take_take, List.take_take, Nat.min_eq_left (by omega), Nat.min_eq_left (by omega)]
    ·simp only []
     omega
 ·rw [decide_eq_false (by omega), iteB_false, Option.bind_some, iteB_false]
  exact W.ret ⟨n, h1, h3, rfl, .inl (by omega)⟩
theorem r2_loop : ∀ (k v m : Nat), m + k = 9 → v < 10 ^ m → Av.loop M_boulterref04_Parse_L2 ((v : Int), (m : Int)) = some (((v * 10 ^ k : Nat)) : Int)
 | 0, v, m, h, hv => by
  refine loop_end ?_
  unfold M_boulterref04_Parse_L2
  simp only []
  rw [decide_eq_false (by omega), iteB_false, Nat.pow_zero, Nat.mul_one]
 | k + 1, v, m, h, hv => by
  have hm : v < 1000000000 := Nat.lt_of_lt_of_le hv (Nat.pow_le_pow_right (n := 10) (by decide) (show m ≤ 9 by omega))
  have e : M_boulterref04_Parse_L2 ((v : Int), (m : Int)) = some (.inl (((10 * v : Nat) : Int), ((m + 1 : Nat) : Int))) := by
   unfold M_boulterref04_Parse_L2
   simp only []
   rw [decide_eq_true (by omega), iteB_true, ek64 (by omega), w64 (by omega) (by omega)]
   congr 2
  rw [loop_step e, r2_loop k (10 * v) (m + 1) (by omega) (by rw [Nat.pow_succ]; omega)]
  congr 2
  rw [Nat.pow_succ, Nat.mul_comm 10 v, Nat.mul_assoc, Nat.mul_comm 10]
theorem r2_big {v m : Nat} (h : 9 ≤ m) (hm : m < 1000000) : Av.loop M_boulterref04_Parse_L2 ((v : Int), (m : Int)) = some (v : Int) := by
 refine loop_end ?_
 unfold M_boulterref04_Parse_L2
 simp only []
 rw [decide_eq_false (by omega), iteB_false]
theorem dval_zeros (x : List UInt8) : ∀ k, dval (x ++ List.replicate k 48) = dval x * 10 ^ k
 | 0 => by simp
 | k + 1 => by
  rw [List.replicate_succ', ← List.append_assoc, dval_snoc, dval_zeros x k, Nat.pow_succ]
  show 10 * (dval x * 10 ^ k) + 0 = dval x * (10 ^ k * 10)
  rw [Nat.add_zero, Nat.mul_comm 10, Nat.mul_assoc]
def zer8 : List UInt8 := [48, 48, 48, 48, 48, 48, 48, 48]
theorem zer8_eq : zer8 = List.replicate 8 48 := rfl
theorem nano {b : List UInt8} (h1 : 1 ≤ b.length) (ha : b.all isD = true) : ((b ++ zer8).take 9).length = 9 ∧ ((b ++ zer8).take 9).all isD = true ∧ dval ((b ++ zer8).take 9) = dval (b.take 9) * 10 ^ (9 - b.length) := by
 have e : (b ++ zer8).take 9 = b.take 9 ++ List.replicate (9 - b.length) 48 := by
  rw [List.take_append, zer8_eq, List.take_replicate, Nat.min_eq_left (by omega)]
 have hl : zer8.length = 8 := rfl
 refine ⟨by rw [List.length_take, List.length_append, hl]; omega, ?_, by rw [e, dval_zeros]⟩
 rw [e, List.all_append, Bool.and_eq_true]
 refine ⟨?_, ?_⟩
 ·rw [List.all_eq_true] at ha ⊢
  exact fun x hx => ha x (List.mem_of_mem_take hx)
 ·rw [List.all_eq_true]
  intro x hx
  rw [List.eq_of_mem_replicate hx]
  decide
end Go.Av.L
