/-
  AttrsApply: a stamp is read by both alike.
-/
import Derived.Test.YtdpebdaplhfbjaaGreatDoorApB
namespace Go.Av.L
open Go.Av Go.Lib
set_option linter.unusedVariables false
set_option linter.unusedSimpArgs false
theorem right_eq (a b : Int) : M_stamp_Right ⟨a, b⟩ = M_boulterref04_Right a b := by
 unfold M_stamp_Right M_boulterref04_Right
 congr 2
 rw [decide_eq_decide]
 simp only []
 omega
def tailP (neg : Bool) (v n : Int) : Option (S_api_Stamp × Int) :=
 (iteB neg ((M_stamp_turn (⟨v, n⟩ : S_api_Stamp)).bind fun x14 => some (x14.Sec, x14.Nsec)) (some (v, n)) : Option ((Int × Int))).bind fun (x12, x13) => (M_stamp_Right (⟨x12, x13⟩ : S_api_Stamp)).bind fun x15 => iteB (!x15) (some ((⟨(0 : Int), (0 : Int)⟩ : S_api_Stamp), (6 : Int))) (some ((⟨x12, x13⟩ : S_api_Stamp), (0 : Int)))
def tailR (neg : Bool) (v n : Int) : Option (Int × Int × Int) :=
 (iteB neg (iteB (decide (n > 0)) (some (IntKind.i64.wrap ((IntKind.i64.wrap (0 - v)) - 1), IntKind.i64.wrap ((1000000000 : Int) - n))) (some (IntKind.i64.wrap (0 - v), n))) (some (v, n)) : Option ((Int × Int))).bind fun (x33, x34) => (M_boulterref04_Right x33 x34).bind fun x35 => iteB (!x35) (some ((0 : Int), (0 : Int), (6 : Int))) (some (x33, x34, (0 : Int)))
theorem tail_eq (neg : Bool) (v : Int) (n : Nat) : ∃ a b e, tailP neg v (n : Int) = some (⟨a, b⟩, e) ∧ tailR neg v (n : Int) = some (a, b, e) := by
 have key : ∃ x y, (iteB neg ((M_stamp_turn (⟨v, (n : Int)⟩ : S_api_Stamp)).bind fun x14 => some (x14.Sec, x14.Nsec)) (some (v, (n : Int))) : Option ((Int × Int))) = some (x, y) ∧
   (iteB neg (iteB (decide ((n : Int) > 0)) (some (IntKind.i64.wrap ((IntKind.i64.wrap (0 - v)) - 1), IntKind.i64.wrap ((1000000000 : Int) - (n : Int)))) (some (IntKind.i64.wrap (0 - v), (n : Int)))) (some (v, (n : Int))) : Option ((Int × Int))) = some (x, y) := by
  cases neg with
  | false => exact ⟨_, _, rfl, rfl⟩
  | true =>
   rw [iteB_true, iteB_true]
   unfold M_stamp_turn
   simp only []
   by_cases h : n = 0
   ·subst h
    exact ⟨_, _, rfl, rfl⟩
   ·rw [show (((n : Nat) : Int) == 0) = false from by rw [beq_eq_false_iff_ne]; omega, iteB_false, decide_eq_true (by omega), iteB_true]
    exact ⟨_, _, rfl, rfl⟩
 obtain ⟨x, y, e1, e2⟩ := key
 unfold tailP tailR
 rw [e1, e2, Option.bind_some, Option.bind_some]
 simp only []
 rw [right_eq]
 unfold M_boulterref04_Right
 rw [Option.bind_some, Option.bind_some]
 generalize (((decide (x ≥ (-9007199254740991)) && decide (x ≤ 9007199254740991)) && decide (y ≥ 0)) && decide (y ≤ 999999999)) = b
 cases b with
 | false => exact ⟨0, 0, 6, rfl, rfl⟩
 | true => exact ⟨x, y, 0, rfl, rfl⟩
theorem mrest_drop (s : List UInt8) : ∃ o : Nat, o ≤ s.length ∧ s.drop o = (mrest s).1 ∧ (iteB (decide ((s.length : Int) > 0)) ((ixS s (0 : Int)).bind fun x2 => some (x2 == 45)) (some false) : Option (Bool)) = some (mrest s).2 ∧
  (iteB (mrest s).2 (some (1 : Int)) (some (0 : Int)) : Option ((Int))) = some (o : Int) := by
 cases s with
 | nil => exact ⟨0, by simp, rfl, rfl, rfl⟩
 | cons c t =>
  rw [decide_eq_true (by simp), iteB_true, ixS_head, Option.bind_some]
  have hm : mrest (c :: t) = if c = 45 then (t, true) else (c :: t, false) := rfl
  have hb : ((c.toNat : Int) == 45) = (c == 45) := byte_eq (b := c) (n := 45) (by omega)
  rw [hb, hm]
  by_cases h : c = 45
  ·rw [if_pos h]
   exact ⟨1, by simp, rfl, by rw [h]; rfl, rfl⟩
  ·rw [if_neg h]
   exact ⟨0, by simp, rfl, by rw [show (c == 45) = false from by rw [beq_eq_false_iff_ne]; exact h], rfl⟩
theorem D_ne {c : UInt8} (h : isD c = true) : c ≠ 46 := fun e => by subst e; exact absurd h (by decide)
theorem whole_bad {x : List UInt8} {k : Nat} {c : UInt8} (hk : x[k]? = some c) (hc : isD c = false) (h46 : ∀ j, j ≤ k → x[j]? ≠ some 46) : (dspec (Lib.cut x [46]).1 16).2 = false := by
 have h := whole_at h46
 rw [hk] at h
 obtain ⟨hl, he⟩ := List.getElem?_eq_some_iff.1 h
 unfold dspec
 split
 ·rfl
 ·rw [if_neg (by rw [not_all hl (by rw [he]; exact hc)]; decide)]
theorem stamp_eq (s : List UInt8) (hs : s.length ≤ 400) : ∃ a b e, M_stamp_Parse s = some (⟨a, b⟩, e) ∧ M_boulterref04_Parse s = some (a, b, e) := by
 obtain ⟨o, ho, hdr, q1, q2⟩ := mrest_drop s
 obtain ⟨r, er, n, n1, n2, n3, hrr, n4⟩ := r0_loop ho (by omega : s.length ≤ 1000)
 subst hrr
 have hP : M_stamp_Parse s = (fun (x1 : List UInt8) (x2 : Bool) => (M_stamp_digits ((Lib.cut x1 ([46] : List UInt8)).1) (16 : Int)).bind fun (x3, x4) => iteB (!x4) (some ((⟨(0 : Int), (0 : Int)⟩ : S_api_Stamp), (2 : Int))) ((iteB ((Lib.cut x1 ([46] : List UInt8)).2.2) ((M_stamp_digits ((Lib.cut x1 ([46] : List UInt8)).2.1) (40 : Int)).bind fun (x7, x8) => iteB (!x8) (some (.inr (2 : Int))) (need (decide (((Lib.cut x1 ([46] : List UInt8)).2.1).length + ([48, 48, 48, 48, 48, 48, 48, 48] : List UInt8).length ≤ 9223372036854775807)) <| (subS (((Lib.cut x1 ([46] : List UInt8)).2.1) ++ ([48, 48, 48, 48, 48, 48, 48, 48] : List UInt8)) none (some (9 : Int))).bind fun x9 => (M_stamp_digits x9 (9 : Int)).bind fun (x10, x11) => some (.inl x10))) (some (.inl (0 : Int))) : Option ((Int) ⊕ (Int))).bind fun o1 => (match o1 with | .inl x5 => tailP x2 x3 x5 | .inr x6 => some ((⟨(0 : Int), (0 : Int)⟩ : S_api_Stamp), x6)))) (mrest s).1 (mrest s).2 := by
  unfold M_stamp_Parse
  rw [cutp_ok, Option.bind_some]
  have hl : (mrest s).1.length ≤ 4294967280 := by rw [← hdr, List.length_drop]; omega
  show need (decide ((mrest s).1.length ≤ 4294967280)) _ = _
  rw [decide_eq_true hl, need_true]
  rfl
 have hR : M_boulterref04_Parse s = (iteB ((decide ((n : Int) < 1)) || (decide ((n : Int) > 16))) (some ((0 : Int), (0 : Int), (2 : Int))) ((iteB (decide (((o + n : Nat) : Int) < (s.length : Int))) ((ixS s ((o + n : Nat) : Int)).bind fun x18 => iteB (x18 != 46) (some (.inr ((0 : Int), (0 : Int), (2 : Int)))) ((Av.loop (M_boulterref04_Parse_L1 s) (IntKind.i64.wrap (((o + n : Nat) : Int) + 1), (0 : Int), (0 : Int))).bind fun (x22, x23, x24) => iteB (((decide (x24 < 1)) || (decide (x24 > 40))) || (decide (x22 < (s.length : Int)))) (some (.inr ((0 : Int), (0 : Int), (2 : Int)))) ((Av.loop (M_boulterref04_Parse_L2) (x23, x24)).bind fun x32 => some (.inl x32)))) (some (.inl (0 : Int))) : Option ((Int) ⊕ (Int × Int × Int))).bind fun o3 => (match o3 with | .inl x14 => tailR (mrest s).2 (dval ((s.drop o).take n) : Int) x14 | .inr (x15, x16, x17) => some (x15, x16, x17)))) := by
  unfold M_boulterref04_Parse
  rw [q1, Option.bind_some, q2, Option.bind_some, er, Option.bind_some]
  rfl
 rw [hP, hR]
 generalize hx : (mrest s).1 = x
 generalize (mrest s).2 = neg
 rw [hx] at hdr
 rw [hdr] at n3 ⊢
 have hxl : x.length = s.length - o := by rw [← hdr, List.length_drop]
 have hxk : ∀ k, x[k]? = s[o + k]? := fun k => by rw [← hdr, List.getElem?_drop]
 have hwl : (Lib.cut x [46]).1.length ≤ 1000 := by
  rcases split46 x with h | ⟨a, b, e, ha⟩
  ·rw [cutN h]; simp only []; omega
  ·rw [e, cut46 ha]
   have := congrArg List.length e
   rw [List.length_append] at this
   simp only []
   omega
 simp only []
 rw [show M_stamp_digits (Lib.cut x [46]).1 (16 : Int) = some (dspec (Lib.cut x [46]).1 16) from sdig_ok _ 16 hwl, Option.bind_some]
 have hdig : ∀ j, j < n → ∃ c, x[j]? = some c ∧ isD c = true := by
  intro j hj
  have hlt : j < x.length := by omega
  refine ⟨x[j], List.getElem?_eq_getElem hlt, ?_⟩
  rw [List.all_eq_true] at n3
  refine n3 _ ?_
  rw [List.mem_iff_getElem]
  exact ⟨j, by rw [List.length_take]; omega, by rw [List.getElem_take]⟩
 have hno : ∀ j, j < n → x[j]? ≠ some 46 := by
  intro j hj e
  obtain ⟨c, h1, h2⟩ := hdig j hj
  rw [h1] at e
  injection e with e
  exact D_ne h2 e
 have fall : (dspec (Lib.cut x [46]).1 16).2 = false → ∀ (z : Option (Int ⊕ Int)) , (match dspec (Lib.cut x [46]).1 16 with | (x3, x4) => iteB (!x4) (some ((⟨(0 : Int), (0 : Int)⟩ : S_api_Stamp), (2 : Int))) (z.bind fun o1 => (match o1 with | .inl x5 => tailP neg x3 x5 | .inr x6 => some ((⟨(0 : Int), (0 : Int)⟩ : S_api_Stamp), x6)))) = some (⟨0, 0⟩, 2) := by
  intro hf z
  generalize dspec (Lib.cut x [46]).1 16 = p at hf
  obtain ⟨p1, p2⟩ := p
  simp only at hf
  subst hf
  rfl
 by_cases hn0 : n < 1 ∨ n > 16
 ·-- no number
  rw [show (decide ((n : Int) < 1) || decide ((n : Int) > 16)) = true from by rw [Bool.or_eq_true, decide_eq_true_eq, decide_eq_true_eq]; omega, iteB_true]
  refine ⟨0, 0, 2, fall ?_ _, rfl⟩
  rcases hn0 with h | h
  ·have h0 : n = 0 := by omega
   subst h0
   rcases n4 with h | h | ⟨h, hc⟩
   ·omega
   ·have : x = [] := List.eq_nil_of_length_eq_zero (by omega)
    rw [this]
    rfl
   ·by_cases h46 : s[o + 0] = 46
    ·have hx0 : x = [] ++ 46 :: x.drop 1 := by
      have hlt : 0 < x.length := by omega
      have e1 : x[0]? = some 46 := by rw [hxk, List.getElem?_eq_getElem h, h46]
      cases x with
      | nil => cases e1
      | cons c t => injection e1 with e1; rw [e1]; rfl
     rw [hx0, cut46 (by simp)]
     rfl
    ·refine whole_bad (k := 0) (c := s[o + 0]) (by rw [hxk, List.getElem?_eq_getElem h]) hc fun j hj => ?_
     have : j = 0 := by omega
     subst this
     rw [hxk, List.getElem?_eq_getElem h]
     intro e
     injection e with e
     exact h46 e
  ·-- seventeen digits
   have hw : (Lib.cut x [46]).1[16]? = x[16]? := whole_at fun j hj => hno j (by omega)
   have : 16 < (Lib.cut x [46]).1.length := by
    obtain ⟨c, hc, _⟩ := hdig 16 (by omega)
    rw [hc] at hw
    exact (List.getElem?_eq_some_iff.1 hw).1
   unfold dspec
   rw [if_pos (.inr this)]
 ·rw [show (decide ((n : Int) < 1) || decide ((n : Int) > 16)) = false from by rw [Bool.or_eq_false_iff, decide_eq_false_iff_not, decide_eq_false_iff_not]; omega, iteB_false]
  have htn : (x.take n).length = n := by rw [List.length_take]; omega
  have hds : dspec (x.take n) 16 = ((dval (x.take n) : Int), true) := by
   unfold dspec
   rw [if_neg (by rw [htn]; omega), if_pos n3, List.take_of_length_le (l := x.take n) (by rw [htn]; omega)]
  have hno46 : (46 : UInt8) ∉ x.take n := by
   intro hm
   rw [List.all_eq_true] at n3
   exact D_ne (n3 _ hm) rfl
  by_cases hend : o + n < s.length
  ·rw [decide_eq_true (show ((o + n : Nat) : Int) < (s.length : Int) by omega), iteB_true, ixS_get hend, Option.bind_some]
   have hb : ((s[o + n].toNat : Int) != 46) = (s[o + n] != 46) := by
    have := byte_eq (b := s[o + n]) (n := 46) (by omega)
    show (!((s[o + n].toNat : Int) == ((46 : Nat) : Int))) = _
    rw [this]
    rfl
   rw [hb]
   by_cases h46 : s[o + n] = 46
   ·-- a point
    rw [show (s[o + n] != 46) = false from by rw [h46]; rfl, iteB_false, ek64 (by omega)]
    obtain ⟨b, hbx⟩ : ∃ b, b = s.drop (o + n + 1) := ⟨_, rfl⟩
    have hxe : x = x.take n ++ 46 :: b := by
     have e1 : x.drop n = s.drop (o + n) := by rw [← hdr, List.drop_drop]
     have e2 : s.drop (o + n) = 46 :: b := by rw [drop_cons hend, h46, hbx]
     rw [← e2, ← e1, List.take_append_drop]
    have hcut : Lib.cut x [46] = (x.take n, b, true) := by
     have := cut46 (r := b) hno46
     rw [← hxe] at this
     exact this
    rw [hcut]
    simp only []
    rw [hds]
    simp only []
    rw [Bool.not_true, iteB_false, iteB_true]
    obtain ⟨r, er1, m, m1, m2, hrr, m4⟩ := r1_loop (s := s) (o := o + n + 1) (by omega) (by omega)
    subst hrr
    rw [er1, Option.bind_some]
    simp only []
    rw [← hbx] at m2 ⊢
    have hbl : b.length = s.length - (o + n + 1) := by rw [hbx, List.length_drop]
    rw [show M_stamp_digits b (40 : Int) = some (dspec b 40) from sdig_ok b 40 (by omega), Option.bind_some]
    by_cases hall : b.all isD = true
    ·have hme : o + n + 1 + m = s.length := by
      rcases m4 with h | ⟨h, hc⟩
      ·exact h
      ·exfalso
       rw [List.all_eq_true] at hall
       have := hall (s[o + n + 1 + m]) (by
        rw [hbx, List.mem_iff_getElem]
        exact ⟨m, by rw [List.length_drop]; omega, by rw [List.getElem_drop]⟩)
       rw [hc] at this
       cases this
     have hmb : m = b.length := by omega
     have htb : b.take m = b := by rw [hmb, List.take_length]
     rw [htb]
     by_cases hbad : m < 1 ∨ m > 40
     ·have hdb : dspec b 40 = (0, false) := by unfold dspec; rw [if_pos (by omega)]
      rw [hdb, show ((decide ((m : Int) < 1) || decide ((m : Int) > 40)) || decide (((o + n + 1 + m : Nat) : Int) < (s.length : Int))) = true from by rw [Bool.or_eq_true, Bool.or_eq_true, decide_eq_true_eq, decide_eq_true_eq]; omega]
      exact ⟨0, 0, 2, rfl, rfl⟩
     ·have hdb : dspec b 40 = ((dval (b.take 16) : Int), true) := by unfold dspec; rw [if_neg (by omega), if_pos hall]
      rw [hdb, show ((decide ((m : Int) < 1) || decide ((m : Int) > 40)) || decide (((o + n + 1 + m : Nat) : Int) < (s.length : Int))) = false from by rw [Bool.or_eq_false_iff, Bool.or_eq_false_iff, decide_eq_false_iff_not, decide_eq_false_iff_not, decide_eq_false_iff_not]; omega]
      simp only []
      rw [Bool.not_true, iteB_false, iteB_false]
      obtain ⟨k1, k2, k3⟩ := nano (b := b) (by omega) hall
      rw [decide_eq_true (show b.length + ([48, 48, 48, 48, 48, 48, 48, 48] : List UInt8).length ≤ 9223372036854775807 by simp; omega), need_true, show subS (b ++ ([48, 48, 48, 48, 48, 48, 48, 48] : List UInt8)) none (some (9 : Int)) = some ((b ++ zer8).take 9) from subS_hi (s := b ++ zer8) (i := 9) (by rw [List.length_append, show zer8.length = 8 from rfl]; omega), Option.bind_some, show M_stamp_digits ((b ++ zer8).take 9) (9 : Int) = some (dspec ((b ++ zer8).take 9) 9) from sdig_ok _ 9 (by rw [k1]; omega)]
      have hd9 : dspec ((b ++ zer8).take 9) 9 = ((dval ((b ++ zer8).take 9) : Int), true) := by
       unfold dspec
       rw [if_neg (by rw [k1]; omega), if_pos k2, List.take_of_length_le (l := (b ++ zer8).take 9) (by rw [k1]; omega)]
      rw [hd9, k3]
      simp only [Option.bind_some]
      have hl2 : Av.loop M_boulterref04_Parse_L2 ((dval (b.take 9) : Int), (m : Int)) = some ((dval (b.take 9) * 10 ^ (9 - b.length) : Nat) : Int) := by
       by_cases h9 : 9 ≤ m
       ·rw [r2_big h9 (by omega), show 9 - b.length = 0 from by omega, Nat.pow_zero, Nat.mul_one]
       ·have hb9 : b.take 9 = b := List.take_of_length_le (by omega)
        rw [r2_loop (9 - b.length) (dval (b.take 9)) m (by omega) (by rw [hb9]; exact dval_lt hall (by omega))]
      rw [hl2, Option.bind_some]
      simp only [Option.bind_some]
      exact tail_eq _ _ _
    ·have hdb : (dspec b 40).2 = false := by
      unfold dspec
      split
      ·rfl
      ·first | rfl | rw [if_neg hall]
     have hlt : o + n + 1 + m < s.length := by
      rcases m4 with h | ⟨h, _⟩
      ·exfalso
       apply hall
       have : b.take m = b := List.take_of_length_le (by omega)
       rw [this] at m2
       exact m2
      ·exact h
     generalize dspec b 40 = p at hdb
     obtain ⟨p1, p2⟩ := p
     simp only at hdb
     subst hdb
     rw [show ((decide ((m : Int) < 1) || decide ((m : Int) > 40)) || decide (((o + n + 1 + m : Nat) : Int) < (s.length : Int))) = true from by rw [Bool.or_eq_true, decide_eq_true_eq (p := ((o + n + 1 + m : Nat) : Int) < (s.length : Int))]; exact .inr (by omega)]
     exact ⟨0, 0, 2, rfl, rfl⟩
   ·-- another sign
    rw [show (s[o + n] != 46) = true from by rw [bne_iff_ne]; exact h46, iteB_true, Option.bind_some]
    refine ⟨0, 0, 2, fall ?_ _, rfl⟩
    have hc : isD s[o + n] = false := by
     rcases n4 with h | h | ⟨_, h⟩
     ·omega
     ·omega
     ·exact h
    refine whole_bad (k := n) (c := s[o + n]) (by rw [hxk, List.getElem?_eq_getElem hend]) hc fun j hj => ?_
    by_cases hjn : j < n
    ·exact hno j hjn
    ·have : j = n := by omega
     subst this
     rw [hxk, List.getElem?_eq_getElem hend]
     intro e
     injection e with e
     exact h46 e
  ·-- the end
   rw [decide_eq_false (show ¬ ((o + n : Nat) : Int) < (s.length : Int) by omega), iteB_false, Option.bind_some]
   simp only []
   have hxn : x.take n = x := List.take_of_length_le (by omega)
   rw [hxn] at hno46 hds ⊢
   rw [cutN hno46]
   simp only []
   rw [hds]
   simp only []
   rw [Bool.not_true, iteB_false, iteB_false, Option.bind_some]
   exact tail_eq _ _ 0
end Go.Av.L
