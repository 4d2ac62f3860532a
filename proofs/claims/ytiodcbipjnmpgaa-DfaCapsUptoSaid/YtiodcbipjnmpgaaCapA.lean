/-
  DfaCaps: sets, nodes and right trees, by the document's words.
-/
import Derived.Test.YtiodcbipjnmpgaaDfaF
import Derived.Test.YtiodcbipjnmpgaaAvUp
namespace Go.Av.L
open Go.Av Go.Lib
set_option linter.unusedVariables false
set_option linter.unusedSimpArgs false
def OkW (w : Int) : Prop := 0 ≤ w ∧ w ≤ 18446744073709551615
def wordsS (s : A4_uint64) : List Int := [s.w0, s.w1, s.w2, s.w3]
def OkS (s : A4_uint64) : Prop := ∀ w ∈ wordsS s, OkW w
def hasB (s : A4_uint64) (b : Nat) : Bool := (((wordsS s).getD (b / 64) 0).toNat / 2 ^ (b % 64)) % 2 == 1
def zeroS : A4_uint64 := ⟨0, 0, 0, 0⟩
theorem fdiv_pos {a b : Int} (hb : 0 ≤ b) : a.fdiv b = a / b := Int.fdiv_eq_ediv_of_nonneg a hb
theorem and63 : ∀ b : Fin 256, bAnd .u8 ((b.val : Nat) : Int) 63 = ((b.val % 64 : Nat) : Int) := by decide +kernel
theorem and1 {v : Int} (h : OkW v) : bAnd .u64 v 1 = v % 2 := by
 obtain ⟨h0, h1⟩ := h
 unfold bAnd
 have e1 : (BitVec.ofInt 64 v).toNat = v.toNat := by rw [BitVec.toNat_ofInt]; omega
 show IntKind.u64.wrap ((BitVec.ofInt 64 v &&& BitVec.ofInt 64 1).toNat : Int) = _
 rw [BitVec.toNat_and, e1, show (BitVec.ofInt 64 1).toNat = 2 ^ 1 - 1 from rfl, Nat.and_two_pow_sub_one_eq_mod]
 have : IntKind.u64.wrap ((v.toNat % 2 ^ 1 : Nat) : Int) = ((v.toNat % 2 ^ 1 : Nat) : Int) % 18446744073709551616 := rfl
 rw [this]
 omega
theorem shr6 {b : Nat} : bShr .u8 (b : Int) 6 = ((b / 64 : Nat) : Int) := by
 unfold bShr
 show Int.fdiv (b : Int) (2 ^ 6) = _
 rw [fdiv_pos (by omega)]; omega
theorem shrW {w : Int} {i : Nat} (hw : 0 ≤ w) (hi : i < 64) : bShr .u64 w (i : Int) = ((w.toNat / 2 ^ i : Nat) : Int) := by
 unfold bShr
 rw [show min (Int.toNat (i : Int)) IntKind.u64.bits = i from by show min i 64 = i; omega, fdiv_pos (Int.le_of_lt (Int.pow_pos (by omega)))]
 have : ((w.toNat : Nat) : Int) = w := Int.toNat_of_nonneg hw
 rw [Int.natCast_ediv, this]
 simp
theorem has_eqB {s : A4_uint64} (ok : OkS s) {b : Nat} (hb : b < 256) : M_class_Set_Has s (b : Int) = some (hasB s b) := by
 unfold M_class_Set_Has
 refine W.eq ?_
 have hk : b / 64 < (wordsS s).length := by show b / 64 < 4; omega
 rw [shr6, show ([s.w0, s.w1, s.w2, s.w3] : List Int) = wordsS s from rfl, ixV_get hk, Option.bind_some]
 have hw : (wordsS s)[b / 64] = (wordsS s).getD (b / 64) 0 := by
  rw [List.getD_eq_getElem?_getD, List.getElem?_eq_getElem hk]; rfl
 have okw := ok _ (List.getElem_mem hk)
 rw [hw] at okw ⊢
 unfold hasB
 generalize (wordsS s).getD (b / 64) 0 = w at okw ⊢
 have e63 := and63 ⟨b, hb⟩
 dsimp only at e63
 rw [e63]
 refine W.need (decide_eq_true (Int.natCast_nonneg _)) ?_
 have hd : w.toNat / 2 ^ (b % 64) ≤ w.toNat := Nat.div_le_self _ _
 rw [shrW okw.1 (by omega), and1 ⟨Int.natCast_nonneg _, by unfold OkW at okw; omega⟩]
 refine W.ret ?_
 generalize w.toNat / 2 ^ (b % 64) = q
 rw [Bool.eq_iff_iff, beq_iff_eq, beq_iff_eq]
 omega
theorem bytes_ok {s : A4_uint64} (ok : OkS s) : W (M_class_Set_Bytes s) fun l => (l = [] ↔ ∀ b < 256, hasB s b = false) := by
 unfold M_class_Set_Bytes
 refine W.bind (W.mono (W.loop (fun t => ∃ i : Nat, t.2 = (i : Int) ∧ i ≤ 256 ∧ t.1.length ≤ i ∧ (t.1 = [] ↔ ∀ b < i, hasB s b = false)) (fun t => (256 - t.2).toNat) ⟨0, rfl, by omega, Nat.le_refl _, by simp⟩ ?_ (Q := fun l => (l = [] ↔ ∀ b < 256, hasB s b = false))) fun r h => W.ret h)
 rintro ⟨x1, x2⟩ ⟨i, hi, h1, h2, h3⟩
 simp only at hi h2 h3
 subst hi
 unfold M_class_Set_Bytes_L0
 refine W.iteP (fun hb => ?_) fun hb => W.ret ?_
 ·have e : IntKind.u8.wrap (i : Int) = (i : Int) := wu8 (by omega) (by omega)
  have hi : i < 256 := by omega
  rw [e, has_eqB ok hi, Option.bind_some]
  have e2 : IntKind.i64.wrap ((i : Int) + 1) = ((i + 1 : Nat) : Int) := ek64 (by omega)
  rw [e2]
  refine W.bind (W.ite (fun hh => ?_) fun hh => W.ret ?_)
  ·have et : toY (i : Int) = some (UInt8.ofNat i) := by unfold toY; rw [if_pos (by omega), Int.toNat_natCast]
   rw [et]
   refine W.bind (W.ret (W.need (okN_of (by simp; omega) (by simp; omega)) (W.ret (W.ret ?_))))
   refine ⟨⟨i + 1, rfl, by omega, by simp; omega, ?_⟩, by simp only; omega⟩
   simp only [List.append_eq_nil_iff, List.cons_ne_nil, and_false, false_iff]
   intro h
   rw [h i (by omega)] at hh
   cases hh
  ·refine W.ret ⟨⟨i + 1, rfl, by omega, by simp only; omega, ?_⟩, by simp only; omega⟩
   simp only
   rw [h3]
   constructor
   ·intro h b hb
    by_cases e : b = i
    ·subst e; exact hh
    ·exact h b (by omega)
   ·intro h b hb
    exact h b (by omega)
 ·obtain rfl : i = 256 := by omega
  exact h3
theorem word_zero {w : Int} (ok : OkW w) (h : ∀ k < 64, (w.toNat / 2 ^ k) % 2 = 0) : w = 0 := by
 have h0 : w.toNat = 0 := by
  refine Nat.eq_of_testBit_eq fun k => ?_
  rw [Nat.zero_testBit]
  by_cases hk : k < 64
  ·rw [Nat.testBit_eq_decide_div_mod_eq, h k hk]; rfl
  ·refine Nat.testBit_lt_two_pow (Nat.lt_of_lt_of_le (m := 2 ^ 64) ?_ (Nat.pow_le_pow_right (by omega) (by omega)))
   have := ok.2
   omega
 have := ok.1
 omega
theorem empty_iff {s : A4_uint64} (ok : OkS s) : (∀ b < 256, hasB s b = false) ↔ s = zeroS := by
 constructor
 ·intro h
  have hz : ∀ j < 4, ∀ w, (wordsS s)[j]? = some w → w = 0 := by
   intro j hj w hw
   refine word_zero (ok w (List.mem_of_getElem? hw)) fun k hk => ?_
   have := h (64 * j + k) (by omega)
   unfold hasB at this
   rw [show (64 * j + k) / 64 = j by omega, show (64 * j + k) % 64 = k by omega, List.getD_eq_getElem?_getD, hw] at this
   simp only [Option.getD_some, beq_eq_false_iff_ne, ne_eq] at this
   omega
  have w0 := hz 0 (by omega) _ rfl
  have w1 := hz 1 (by omega) _ rfl
  have w2 := hz 2 (by omega) _ rfl
  have w3 := hz 3 (by omega) _ rfl
  cases s
  simp only [zeroS] at *
  simp [w0, w1, w2, w3]
 ·rintro rfl b hb
  unfold hasB
  have : b / 64 = 0 ∨ b / 64 = 1 ∨ b / 64 = 2 ∨ b / 64 = 3 := by omega
  rcases this with e | e | e | e <;> rw [e] <;> simp [wordsS, zeroS]
def ch (b : Bool) (k : Option Bool) : Option Bool :=
 match some b with
 | some true => k
 | some false => some false
 | none => none
def ch2 (x : Option Bool) (k : Option Bool) : Option Bool :=
 match x with
 | some true => k
 | some false => some false
 | none => none
theorem eqNode_ch (k a b u v w s0 s1 s2 s3 k' a' b' u' v' w' t0 t1 t2 t3 : Int) : eqG cfg.P 68 [.int .i64 k, .int .i64 a, .int .i64 b, .int .i64 u, .int .i64 v, .int .i64 w, .int .u64 s0, .int .u64 s1, .int .u64 s2, .int .u64 s3] [.int .i64 k', .int .i64 a', .int .i64 b', .int .i64 u', .int .i64 v', .int .i64 w', .int .u64 t0, .int .u64 t1, .int .u64 t2, .int .u64 t3] = ch (k == k') (ch (a == a') (ch (b == b') (ch (u == u') (ch (v == v') (ch (w == w') (ch2 (ch (s0 == t0) (ch (s1 == t1) (ch (s2 == t2) (ch (s3 == t3) (some true))))) (some true))))))) := by
 kernel_rfl
theorem ch_eq (a b : Int) (k : Bool) : ch (a == b) (some k) = some (decide (a = b) && k) := by
 by_cases h : a = b
 ·rw [show (a == b) = true from by simpa using h]; simp [ch, h]
 ·rw [show (a == b) = false from by simpa using h]; simp [ch, h]
theorem ch2_some (b : Bool) : ch2 (some b) (some true) = some b := by cases b <;> rfl
theorem eqNode (k a b u v w s0 s1 s2 s3 k' a' b' u' v' w' t0 t1 t2 t3 : Int) : eqG cfg.P 68 [.int .i64 k, .int .i64 a, .int .i64 b, .int .i64 u, .int .i64 v, .int .i64 w, .int .u64 s0, .int .u64 s1, .int .u64 s2, .int .u64 s3] [.int .i64 k', .int .i64 a', .int .i64 b', .int .i64 u', .int .i64 v', .int .i64 w', .int .u64 t0, .int .u64 t1, .int .u64 t2, .int .u64 t3] = some (decide (k = k' ∧ a = a' ∧ b = b' ∧ u = u' ∧ v = v' ∧ w = w' ∧ s0 = t0 ∧ s1 = t1 ∧ s2 = t2 ∧ s3 = t3)) := by
 rw [eqNode_ch]
 simp only [ch_eq, ch2_some]
 congr 1
 rw [Bool.eq_iff_iff]
 simp
def MayP (n : S_tree_Node) (i : Int) : Prop :=
 0 ≤ n.Kind ∧ n.Kind ≤ 7 ∧ (2 ≤ n.Kind ∧ n.Kind ≤ 5 → 0 ≤ n.A ∧ n.A < i) ∧ (¬ (2 ≤ n.Kind ∧ n.Kind ≤ 5) → n.A = 0) ∧ (n.Kind = 2 ∨ n.Kind = 3 → 0 ≤ n.B ∧ n.B < i) ∧ (¬ (n.Kind = 2 ∨ n.Kind = 3) → n.B = 0) ∧
 (n.Kind ≠ 1 → n.Set.w0 = 0 ∧ n.Set.w1 = 0 ∧ n.Set.w2 = 0 ∧ n.Set.w3 = 0) ∧ (n.Kind = 4 → 0 ≤ n.Min ∧ n.Min ≤ 255 ∧ (n.Max = -1 ∨ n.Min ≤ n.Max ∧ n.Max ≤ 255)) ∧ (n.Kind ≠ 4 → n.Min = 0 ∧ n.Max = 0) ∧ (n.Kind = 5 → 1 ≤ n.Group ∧ n.Group ≤ 1024) ∧ (n.Kind ≠ 5 → n.Group = 0)
theorem kindI {k : Int} (h : ¬ (k < 0 ∨ 7 < k)) : k = 0 ∨ k = 1 ∨ k = 2 ∨ k = 3 ∨ k = 4 ∨ k = 5 ∨ k = 6 ∨ k = 7 := by omega
theorem may_iff (n : S_tree_Node) (i : Int) : W (M_tree_may n i) fun b => b = true ↔ MayP n i := by
 unfold M_tree_may M_tree_bare M_tree_may_1_sIP
 obtain ⟨K, A, B, mi, ma, G, ⟨s0, s1, s2, s3⟩⟩ := n
 simp only [eqNode, MayP]
 by_cases hk : K < 0 ∨ 7 < K
 ·have h : ∀ q : Int, 0 ≤ q → q ≤ 7 → (K == q) = false := fun q h1 h2 => by simp; omega
  refine ⟨false, ?_, by simp; omega⟩
  simp only [h 0 (by omega) (by omega), h 1 (by omega) (by omega), h 2 (by omega) (by omega), h 3 (by omega) (by omega), h 4 (by omega) (by omega), h 5 (by omega) (by omega), h 6 (by omega) (by omega), h 7 (by omega) (by omega)]
  rfl
 rcases kindI hk with rfl | rfl | rfl | rfl | rfl | rfl | rfl | rfl
 all_goals simp [iteB, W, eqNode]
 all_goals try (repeat' split) <;> simp_all <;> omega
theorem refMay_iff (n : S_tree_Node) (S : List UInt8) (hS : S = [] ↔ n.Set = zeroS) (i : Int) : W (M_boulterref18_May ⟨n.Kind, n.A, n.B, n.Min, n.Max, n.Group, S⟩ i) fun b => b = true ↔ MayP n i := by
 unfold M_boulterref18_May
 obtain ⟨K, A, B, mi, ma, G, ⟨s0, s1, s2, s3⟩⟩ := n
 simp only [MayP]
 by_cases hk : K < 0 ∨ 7 < K
 ·refine ⟨false, ?_, by simp; omega⟩
  rw [show ((decide (K < 0)) || (decide (K > 7))) = true by simpa using hk]
  rfl
 rw [show ((decide (K < 0)) || (decide (K > 7))) = false by simpa using hk, iteB_false]
 have hS' : S = [] ↔ s0 = 0 ∧ s1 = 0 ∧ s2 = 0 ∧ s3 = 0 := by rw [hS]; simp [zeroS]
 clear hS
 have hb : (S == []) = decide (s0 = 0 ∧ s1 = 0 ∧ s2 = 0 ∧ s3 = 0) := by rw [Bool.eq_iff_iff]; simp [hS']
 rw [hb]
 clear hb hS'
 rcases kindI hk with rfl | rfl | rfl | rfl | rfl | rfl | rfl | rfl
 all_goals simp [iteB, W]
 all_goals try (repeat' split) <;> simp_all <;> omega
end Go.Av.L
