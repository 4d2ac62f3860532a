/-
  AttrsApply: numbers and stamps, as both read them.
-/
import Derived.Test.YtdpebdaplhfbjaaGreatDoorK0
import Derived.Test.YtdpebdaplhfbjaaGreatDoorK1
import Derived.Test.YtdpebdaplhfbjaaGreatDoorK2
import Derived.Test.YtdpebdaplhfbjaaGreatDoorK3
import Derived.Test.YtdpebdaplhfbjaaGreatDoorAvNum
import Derived.Test.YtdpebdaplhfbjaaGreatDoorAvSm
namespace Go.Av.L
open Go.Av Go.Lib
set_option linter.unusedVariables false
set_option linter.unusedSimpArgs false
def isD (c : UInt8) : Bool := decide (48 ≤ c.toNat) && decide (c.toNat ≤ 57)
def dig (v : Nat) (c : UInt8) : Nat := 10 * v + (c.toNat - 48)
def dval (s : List UInt8) : Nat := s.foldl dig 0
theorem dval_snoc (s : List UInt8) (c : UInt8) : dval (s ++ [c]) = 10 * dval s + (c.toNat - 48) := by unfold dval; rw [List.foldl_append]; rfl
theorem fold_lt : ∀ (s : List UInt8) (v : Nat), s.all isD = true → s.foldl dig v < (v + 1) * 10 ^ s.length
 | [], v, _ => by simp
 | c :: s, v, h => by
  simp only [List.all_cons, Bool.and_eq_true] at h
  have ih := fold_lt s (dig v c) h.2
  have hc := h.1
  unfold isD at hc
  simp only [Bool.and_eq_true, decide_eq_true_eq] at hc
  rw [List.foldl_cons, List.length_cons, Nat.pow_succ]
  refine Nat.lt_of_lt_of_le ih ?_
  have e : (v + 1) * (10 ^ s.length * 10) = ((v + 1) * 10) * 10 ^ s.length := by rw [Nat.mul_comm (10 ^ s.length) 10, Nat.mul_assoc]
  rw [e]
  refine Nat.mul_le_mul_right _ ?_
  unfold dig
  omega
theorem dval_lt {s : List UInt8} (h : s.all isD = true) {n : Nat} (hn : s.length ≤ n) : dval s < 10 ^ n := by
 have := fold_lt s 0 h
 rw [Nat.zero_add, Nat.one_mul] at this
 exact Nat.lt_of_lt_of_le this (Nat.pow_le_pow_right (by decide) hn)
theorem dval16 {s : List UInt8} (h : s.all isD = true) (hn : s.length ≤ 16) : dval s < 10000000000000000 := dval_lt h hn
theorem notD (c : UInt8) : (decide ((c.toNat : Int) < 48) || decide ((c.toNat : Int) > 57)) = !isD c := by
 unfold isD
 by_cases h1 : 48 ≤ c.toNat <;> by_cases h2 : c.toNat ≤ 57
 ·rw [decide_eq_true h1, decide_eq_true h2, decide_eq_false (by omega), decide_eq_false (by omega)]; rfl
 ·rw [decide_eq_true h1, decide_eq_false h2, decide_eq_false (by omega), decide_eq_true (by omega)]; rfl
 ·rw [decide_eq_false h1, decide_eq_true h2, decide_eq_true (by omega), decide_eq_false (by omega)]; rfl
 ·rw [decide_eq_false h1, decide_eq_false h2, decide_eq_true (by omega), decide_eq_true (by omega)]; rfl
theorem isD_b {c : UInt8} (h : isD c = true) : 48 ≤ c.toNat ∧ c.toNat ≤ 57 := by
 unfold isD at h
 simpa using h
theorem take_all {s : List UInt8} {i : Nat} (hi : i < s.length) (ha : (s.take i).all isD = true) (hd : isD s[i] = true) : (s.take (i + 1)).all isD = true := by
 rw [take_snoc (List.getElem?_eq_getElem hi), List.all_append, ha]
 simp [hd]
theorem not_all {s : List UInt8} {i : Nat} (hi : i < s.length) (hd : isD s[i] = false) : s.all isD = false := by
 rw [List.all_eq_false]
 exact ⟨s[i], List.getElem_mem hi, by rw [hd]; decide⟩
def nspec (s : List UInt8) : Int × Int := if s.length = 0 ∨ s.length > 16 then (0, 2) else if s.all isD = true then (if dval s > 9007199254740991 then (0, 6) else ((dval s : Int), 0)) else (0, 2)
theorem num_loop {s : List UInt8} (hs : s.length ≤ 16) : Av.loop (M_attrs_number_1_sSpQ5O_L0 s) ((0 : Int), (0 : Int)) = some (if s.all isD = true then .inl (dval s : Int) else .inr 2) := by
 refine W.eq (W.list (l := s) (fun (v : Nat) (i : Nat) => ((v : Int), (i : Int))) (fun v i => v = dval (s.take i) ∧ (s.take i).all isD = true) ?_ ?_ 0 ⟨rfl, rfl⟩)
 ·rintro v ⟨hv, ha⟩
  unfold M_attrs_number_1_sSpQ5O_L0
  refine W.iteP (fun h => by omega) fun _ => W.ret ?_
  rw [List.take_length] at hv ha
  rw [if_pos ha, hv]
 ·rintro v i hi ⟨hv, ha⟩
  unfold M_attrs_number_1_sSpQ5O_L0
  refine W.iteP (fun _ => ?_) fun h => by omega
  try simp only []
  rw [ixS_get hi]
  simp only [Option.bind_some]
  rw [iteB_or, Option.bind_some, notD]
  cases hd : isD s[i] with
  | false =>
   rw [Bool.not_false, iteB_true]
   refine W.ret ?_
   rw [if_neg (by rw [not_all hi hd]; decide)]
  | true =>
   rw [Bool.not_true, iteB_false]
   have hb := isD_b hd
   have hlt := dval16 ha (by rw [List.length_take]; omega)
   rw [← hv] at hlt
   refine W.ret ⟨dig v s[i], ?_, ?_, take_all hi ha hd⟩
   ·rw [ek64 (by omega), w64 (x := (10 : Int) * (v : Int)) (by omega) (by omega), wu8 (by omega) (by omega), w64 (x := (s[i].toNat : Int) - 48) (by omega) (by omega), w64 (by omega) (by omega)]
    unfold dig
    refine Prod.ext ?_ rfl
    show (10 : Int) * v + (s[i].toNat - 48) = ((10 * v + (s[i].toNat - 48) : Nat) : Int)
    omega
   ·rw [take_snoc (List.getElem?_eq_getElem hi), dval_snoc, ← hv]
    rfl
theorem numr_loop {s : List UInt8} (hs : s.length ≤ 16) : Av.loop (M_boulterref07_number_L0 s) ((0 : Int), (0 : Int)) = some (if s.all isD = true then .inl (dval s : Int) else .inr ((0 : Int), (2 : Int))) := by
 refine W.eq (W.list (l := s) (fun (v : Nat) (i : Nat) => ((v : Int), (i : Int))) (fun v i => v = dval (s.take i) ∧ (s.take i).all isD = true) ?_ ?_ 0 ⟨rfl, rfl⟩)
 ·rintro v ⟨hv, ha⟩
  unfold M_boulterref07_number_L0
  refine W.iteP (fun h => by omega) fun _ => W.ret ?_
  rw [List.take_length] at hv ha
  rw [if_pos ha, hv]
 ·rintro v i hi ⟨hv, ha⟩
  unfold M_boulterref07_number_L0
  refine W.iteP (fun _ => ?_) fun h => by omega
  try simp only []
  rw [ixS_get hi]
  simp only [Option.bind_some]
  rw [iteB_or, Option.bind_some, notD]
  cases hd : isD s[i] with
  | false =>
   rw [Bool.not_false, iteB_true]
   refine W.ret ?_
   rw [if_neg (by rw [not_all hi hd]; decide)]
  | true =>
   rw [Bool.not_true, iteB_false]
   have hb := isD_b hd
   have hlt := dval16 ha (by rw [List.length_take]; omega)
   rw [← hv] at hlt
   refine W.ret ⟨dig v s[i], ?_, ?_, take_all hi ha hd⟩
   ·rw [ek64 (by omega), w64 (x := (10 : Int) * (v : Int)) (by omega) (by omega), w64 (x := (s[i].toNat : Int)) (by omega) (by omega), w64 (x := (10 : Int) * (v : Int) + (s[i].toNat : Int)) (by omega) (by omega), w64 (by omega) (by omega)]
    unfold dig
    refine Prod.ext ?_ rfl
    show (10 : Int) * v + s[i].toNat - 48 = ((10 * v + (s[i].toNat - 48) : Nat) : Int)
    omega
   ·rw [take_snoc (List.getElem?_eq_getElem hi), dval_snoc, ← hv]
    rfl
theorem num_ref (s : List UInt8) : M_boulterref07_number s = some (nspec s) := by
 unfold M_boulterref07_number nspec
 by_cases h : s.length = 0 ∨ s.length > 16
 ·rw [if_pos h, show (decide ((s.length : Int) < 1) || decide ((s.length : Int) > 16)) = true from by rw [Bool.or_eq_true, decide_eq_true_eq, decide_eq_true_eq]; omega, iteB_true]
 ·rw [if_neg h, show (decide ((s.length : Int) < 1) || decide ((s.length : Int) > 16)) = false from by rw [Bool.or_eq_false_iff, decide_eq_false_iff_not, decide_eq_false_iff_not]; omega, iteB_false, numr_loop (by omega), Option.bind_some]
  by_cases ha : s.all isD = true
  ·rw [if_pos ha, if_pos ha]
   simp only []
   by_cases hv : dval s > 9007199254740991
   ·rw [if_pos hv, decide_eq_true (by omega), iteB_true]
   ·rw [if_neg hv, decide_eq_false (by omega), iteB_false]
  ·rw [if_neg ha, if_neg ha]
def nset {α : Type} (s : List UInt8) (m : α) (f : Int → α) : Int × α := if (nspec s).2 = 0 then (0, f (nspec s).1) else ((nspec s).2, m)
theorem num_gen {α : Type} (s : List UInt8) (m : α) (f : Int → α) :
  iteB (((s.length : Int) == 0) || (decide ((s.length : Int) > 16))) (some ((2 : Int), m)) ((Av.loop (M_attrs_number_1_sSpQ5O_L0 s) ((0 : Int), (0 : Int))).bind fun o1 => (match o1 with | .inl x3 => iteB (decide (x3 > 9007199254740991)) (some ((6 : Int), m)) (some ((0 : Int), f x3)) | .inr x4 => some (x4, m))) = some (nset s m f) := by
 unfold nset nspec
 by_cases h : s.length = 0 ∨ s.length > 16
 ·rw [if_pos h, show (((s.length : Int) == 0) || decide ((s.length : Int) > 16)) = true from by rw [Bool.or_eq_true, beq_iff_eq, decide_eq_true_eq]; omega, iteB_true]
  rfl
 ·rw [if_neg h, show (((s.length : Int) == 0) || decide ((s.length : Int) > 16)) = false from by rw [Bool.or_eq_false_iff, beq_eq_false_iff_ne, decide_eq_false_iff_not]; omega, iteB_false, num_loop (by omega), Option.bind_some]
  by_cases ha : s.all isD = true
  ·rw [if_pos ha, if_pos ha]
   simp only []
   by_cases hv : dval s > 9007199254740991
   ·rw [if_pos hv, decide_eq_true (by omega), iteB_true]
    rfl
   ·rw [if_neg hv, decide_eq_false (by omega), iteB_false]
    rfl
  ·rw [if_neg ha, if_neg ha]
   rfl
theorem num5 (s : List UInt8) (m : S_api_Member) : M_attrs_number_1_sSpQ5O s m = some (nset s m fun v => ⟨m.Name, m.Link, m.Kind, m.Mode, m.Uid, v, m.Uname, m.Gname, m.Major, m.Minor, m.Time, m.Extra, m.Data⟩) := num_gen s m _
theorem num4 (s : List UInt8) (m : S_api_Member) : M_attrs_number_1_sSpQ4O s m = some (nset s m fun v => ⟨m.Name, m.Link, m.Kind, m.Mode, v, m.Gid, m.Uname, m.Gname, m.Major, m.Minor, m.Time, m.Extra, m.Data⟩) := num_gen s m _
theorem num0 (s : List UInt8) (n : Int) : M_attrs_number_1_sSpP s n = some (nset s n fun v => v) := num_gen s n _
def hasZ (s : List UInt8) : Bool := s.contains 0
theorem read_loop (s : List UInt8) (hs : s.length ≤ 1000) : W (Av.loop (M_boulterref02_Read_L0 s) (0 : Int)) fun r => ∃ n : Nat, r = (n : Int) ∧ n ≤ s.length ∧ (n = s.length ↔ hasZ s = false) := by
 refine W.list (l := s) (fun (_ : Unit) (i : Nat) => (i : Int)) (fun _ i => (0 : UInt8) ∉ s.take i) ?_ ?_ () (by simp)
 ·intro _ hz
  unfold M_boulterref02_Read_L0
  simp only []
  rw [decide_eq_false (by omega), iteB_false, Option.bind_some, iteB_false]
  rw [List.take_length] at hz
  exact W.ret ⟨s.length, rfl, Nat.le_refl _, fun _ => by unfold hasZ; simpa using hz, fun _ => rfl⟩
 ·intro _ i hi hz
  unfold M_boulterref02_Read_L0
  simp only []
  rw [decide_eq_true (by omega), iteB_true, ixS_get hi, Option.bind_some, Option.bind_some]
  refine W.ite (fun h => W.ret ⟨(), by rw [ek64 (by omega)], ?_⟩) fun h => W.ret ⟨i, rfl, by omega, fun e => by omega, fun e => ?_⟩
  ·rw [take_snoc (List.getElem?_eq_getElem hi)]
   intro hm
   rcases List.mem_append.1 hm with hm | hm
   ·exact hz hm
   ·rw [List.mem_singleton] at hm
    rw [← hm] at h
    simp at h
  ·exfalso
   have h0 : s[i] = 0 := by
    have : ((s[i].toNat : Int) == ((0 : Nat) : Int)) = true := by
     have := h
     simp only [bne_eq_false_iff_eq] at this
     simpa using this
    rw [byte_eq (by omega)] at this
    exact eq_of_beq this
   unfold hasZ at e
   have : s.contains 0 = true := by
    rw [List.contains_iff_mem]
    rw [← h0]
    exact List.getElem_mem hi
   rw [this] at e
   cases e
theorem read_ok (s : List UInt8) (hs : s.length ≤ 1000) : ∃ x, M_boulterref02_Read s = some x ∧ (x == s) = !hasZ s := by
 obtain ⟨r, e, n, rfl, hn, hz⟩ := read_loop s hs
 unfold M_boulterref02_Read
 rw [e, Option.bind_some, subS_hi hn, Option.bind_some]
 refine ⟨_, rfl, ?_⟩
 cases h : hasZ s with
 | false =>
  rw [hz.2 h, List.take_length]
  simp
 | true =>
  have : n ≠ s.length := fun e => by have := hz.1 e; rw [h] at this; cases this
  rw [Bool.not_true, beq_eq_false_iff_ne]
  intro e
  have := congrArg List.length e
  rw [List.length_take] at this
  omega
theorem idx_ok (s : List UInt8) : ∃ n, M_strings_IndexByte s (0 : Int) = some n ∧ decide (n ≥ 0) = hasZ s := by
 unfold M_strings_IndexByte M_stringslite_IndexByte X_IndexByte
 rw [if_pos (by decide)]
 refine ⟨_, rfl, ?_⟩
 have := idxOf_mem s (UInt8.ofNat (0 : Int).toNat)
 unfold hasZ
 by_cases h : (0 : UInt8) ∈ s
 ·rw [show s.contains 0 = true from by rw [List.contains_iff_mem]; exact h]
  exact decide_eq_true (this.2 h)
 ·rw [show s.contains 0 = false from by
   cases e : s.contains 0 with
   | false => rfl
   | true => exact absurd (List.contains_iff_mem.1 e) h]
  exact decide_eq_false fun e => h (this.1 e)
def pset {α : Type} (s : List UInt8) (m m' : α) : Int × α := if hasZ s = true then (2, m) else (0, m')
theorem plain_gen {α : Type} (s : List UInt8) (m m' : α) : ((M_strings_IndexByte s (0 : Int)).bind fun x1 => iteB (decide (x1 ≥ 0)) (some ((2 : Int), m)) (some ((0 : Int), m'))) = some (pset s m m') := by
 obtain ⟨n, e, h⟩ := idx_ok s
 rw [e, Option.bind_some, h]
 unfold pset
 cases hasZ s <;> rfl
theorem plain7 (s : List UInt8) (m : S_api_Member) : M_attrs_plain_1_sSpQ7O s m = some (pset s m ⟨m.Name, m.Link, m.Kind, m.Mode, m.Uid, m.Gid, m.Uname, s, m.Major, m.Minor, m.Time, m.Extra, m.Data⟩) := plain_gen s m _
theorem plain6 (s : List UInt8) (m : S_api_Member) : M_attrs_plain_1_sSpQ6O s m = some (pset s m ⟨m.Name, m.Link, m.Kind, m.Mode, m.Uid, m.Gid, s, m.Gname, m.Major, m.Minor, m.Time, m.Extra, m.Data⟩) := plain_gen s m _
theorem plain0 (s : List UInt8) (m : S_api_Member) : M_attrs_plain_1_sSpPO s m = some (pset s m ⟨s, m.Link, m.Kind, m.Mode, m.Uid, m.Gid, m.Uname, m.Gname, m.Major, m.Minor, m.Time, m.Extra, m.Data⟩) := plain_gen s m _
theorem plain1 (s : List UInt8) (m : S_api_Member) : M_attrs_plain_1_sSpQ1O s m = some (pset s m ⟨m.Name, s, m.Kind, m.Mode, m.Uid, m.Gid, m.Uname, m.Gname, m.Major, m.Minor, m.Time, m.Extra, m.Data⟩) := plain_gen s m _
end Go.Av.L
