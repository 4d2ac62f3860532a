/-
  TREE: which nodes may stand behind so many; putting nodes in.
-/
import Derived.Test.YtmjljpnalhknfaaDoorLtree
import Derived.Test.YtmjljpnalhknfaaDoorAbsKit
namespace Go.Abs.L
open Go.Abs
set_option linter.unusedVariables false
set_option linter.unusedSimpArgs false

structure Nd where
  k : Int
  a : Int
  b : Int
  mi : Int
  ma : Int
  gr : Int
  s0 : Int
  s1 : Int
  s2 : Int
  s3 : Int
  deriving DecidableEq
def nodeC (n : Nd) : List AVal := [.int .i64 n.k, .int .i64 n.a, .int .i64 n.b, .int .i64 n.mi, .int .i64 n.ma, .int .i64 n.gr, .int .u64 n.s0, .int .u64 n.s1, .int .u64 n.s2, .int .u64 n.s3]
theorem nodeC_len (n : Nd) : (nodeC n).length = 10 := rfl
theorem nodeC_one (n : Nd) : (nodeC n).all AVal.one = true := rfl
abbrev zeroC : List AVal := [.int .i64 (0 : Int), .int .i64 (0 : Int), .int .i64 (0 : Int), .int .i64 (0 : Int), .int .i64 (0 : Int), .int .i64 (0 : Int), .int .u64 (0 : Int), .int .u64 (0 : Int), .int .u64 (0 : Int), .int .u64 (0 : Int)]

/-! ### nodes against each other -/
def ch (b : Bool) (k : Option Bool) : Option Bool :=
  match some b with
  | some true => k
  | some false => some false
  | none => none
def ch2 (x : Option Bool) (k : Option Bool) : Option Bool :=
  match x with
  | some true => k
  | some false => some false
  | none => none
theorem eqNode_ch (m n : Nd) : eqG cfg.P 30 (nodeC m) (nodeC n) = ch (m.k == n.k) (ch (m.a == n.a) (ch (m.b == n.b) (ch (m.mi == n.mi) (ch (m.ma == n.ma) (ch (m.gr == n.gr) (ch2 (ch (m.s0 == n.s0) (ch (m.s1 == n.s1) (ch (m.s2 == n.s2) (ch (m.s3 == n.s3) (some true))))) (some true))))))) := by
  kernel_rfl
theorem ch_eq (a b : Int) (k : Bool) : ch (a == b) (some k) = some (decide (a = b) && k) := by
  by_cases h : a = b
  · rw [show (a == b) = true from by simpa using h]; simp [ch, h]
  · rw [show (a == b) = false from by simpa using h]; simp [ch, h]
theorem ch2_some (b : Bool) : ch2 (some b) (some true) = some b := by cases b <;> rfl
theorem eqNode (m n : Nd) : eqG cfg.P 30 (nodeC m) (nodeC n) = some (decide (m = n)) := by
  rw [eqNode_ch]
  simp only [ch_eq, ch2_some]
  congr 1
  rw [Bool.eq_iff_iff]
  cases m; cases n
  simp

/-! ### bare nodes -/
def bareN (n : Nd) : Nd × Bool :=
  if n.k = 0 ∨ n.k = 6 ∨ n.k = 7 then (⟨n.k, 0, 0, 0, 0, 0, 0, 0, 0, 0⟩, true)
  else if n.k = 1 then (⟨1, 0, 0, 0, 0, 0, n.s0, n.s1, n.s2, n.s3⟩, true)
  else if n.k = 2 ∨ n.k = 3 then (⟨n.k, n.a, n.b, 0, 0, 0, 0, 0, 0, 0⟩, true)
  else if n.k = 4 then (⟨4, n.a, 0, n.mi, n.ma, 0, 0, 0, 0, 0⟩, true)
  else if n.k = 5 then (⟨5, n.a, 0, 0, 0, n.gr, 0, 0, 0, 0⟩, true)
  else (⟨0, 0, 0, 0, 0, 0, 0, 0, 0, 0⟩, false)
theorem bare_spec {g : Gd} (h : AHeap) (hfl : g.floor ≤ h.size) (hpr : g.prot = []) (n : Nd) : W (M_tree_bare g h (nodeC n)) fun r => r.1 = (nodeC (bareN n).1, (bareN n).2) ∧ Only none h r.2 := by
  unfold M_tree_bare
  refine W.need rfl ?_
  simp only [Option.bind_some]
  obtain ⟨h1, e1⟩ : ∃ h1, h1 = h.push (.cells none 2 (nodeC n)) := ⟨_, rfl⟩
  obtain ⟨h2, e2⟩ : ∃ h2, h2 = h1.push (.cells none 2 zeroC) := ⟨_, rfl⟩
  have z1 : h1.size = h.size + 1 := by rw [e1]; rfl
  have g2 : h2.get h.size = some (.cells none 2 (nodeC n)) := by rw [e2, AHeap.get_push_old _ _ (by omega), e1, AHeap.get_push_new]
  have r2 : h2.get h1.size = some (.cells none 2 zeroC) := by rw [e2, AHeap.get_push_new]
  have k2 : Only none h h2 := by rw [e2, e1]; exact (Only.push _ _ _).trans (Only.push _ _ _)
  have hlt := h2.lt_of_get r2
  have m1 : g.may h1.size = true := may_new (by omega) (by simp [hpr])
  rw [← e1, ← e2]
  have l0 : ldI h2 (h.size, 0) .i64 = some n.k := ldI_of g2 (by simp) rfl
  have l1 : ldI h2 (h.size, 1) .i64 = some n.a := ldI_of g2 (by simp) rfl
  have l2 : ldI h2 (h.size, 2) .i64 = some n.b := ldI_of g2 (by simp) rfl
  have l3 : ldI h2 (h.size, 3) .i64 = some n.mi := ldI_of g2 (by simp) rfl
  have l4 : ldI h2 (h.size, 4) .i64 = some n.ma := ldI_of g2 (by simp) rfl
  have l5 : ldI h2 (h.size, 5) .i64 = some n.gr := ldI_of g2 (by simp) rfl
  have l6 : ldA h2 (h.size, 6) 4 = some [.int .u64 n.s0, .int .u64 n.s1, .int .u64 n.s2, .int .u64 n.s3] := by rw [ldA_of g2 (by simp) (Nat.le_refl 10)]; rfl
  have fin : ∀ (m : Nd) (b : Bool), W ((stG 10 g h2 (h1.size, 0) (nodeC m)).bind fun h3 => (ldA h3 (h1.size, 0) 10).bind fun x4 => some ((x4, b), h3)) fun r => r.1 = (nodeC m, b) ∧ Only none h r.2 := by
    intro m b
    rw [stG_of r2 m1 (by rfl) (Nat.le_refl 10) rfl, splice_all (by rfl)]
    simp only [Option.bind_some]
    rw [ldA_of (AHeap.get_set_same _ _ hlt) (by simp) (Nat.le_refl 10)]
    refine W.ret ⟨rfl, ⟨by simpa using k2.size, fun id hi _ => ?_⟩⟩
    dsimp only
    rw [AHeap.get_set_ne _ _ hlt (by omega)]
    exact k2.get id hi (by simp)
  simp only [l0, l1, l2, l3, l4, l5, l6, Option.bind_some]
  rw [iteB_or, iteB_or, iteB_or]
  simp only [Option.bind_some]
  by_cases c0 : n.k = 0 ∨ n.k = 6 ∨ n.k = 7
  · rw [show ((n.k == 0) || ((n.k == 6) || (n.k == 7))) = true from by simpa using c0, show bareN n = (⟨n.k, 0, 0, 0, 0, 0, 0, 0, 0, 0⟩, true) from if_pos c0]
    exact fin ⟨n.k, 0, 0, 0, 0, 0, 0, 0, 0, 0⟩ true
  rw [show ((n.k == 0) || ((n.k == 6) || (n.k == 7))) = false from by rw [Bool.eq_false_iff]; simpa using c0]
  simp only [iteB_false]
  rw [iteB_beq]
  split
  · rename_i c1
    rw [show bareN n = (⟨1, 0, 0, 0, 0, 0, n.s0, n.s1, n.s2, n.s3⟩, true) from by unfold bareN; rw [if_neg c0, if_pos c1]]
    refine W.need rfl ?_
    exact fin ⟨1, 0, 0, 0, 0, 0, n.s0, n.s1, n.s2, n.s3⟩ true
  rename_i c1
  by_cases c2 : n.k = 2 ∨ n.k = 3
  · rw [show ((n.k == 2) || (n.k == 3)) = true from by simpa using c2, show bareN n = (⟨n.k, n.a, n.b, 0, 0, 0, 0, 0, 0, 0⟩, true) from by unfold bareN; rw [if_neg c0, if_neg c1, if_pos c2]]
    exact fin ⟨n.k, n.a, n.b, 0, 0, 0, 0, 0, 0, 0⟩ true
  rw [show ((n.k == 2) || (n.k == 3)) = false from by rw [Bool.eq_false_iff]; simpa using c2]
  simp only [iteB_false]
  rw [iteB_beq]
  split
  · rename_i c4
    rw [show bareN n = (⟨4, n.a, 0, n.mi, n.ma, 0, 0, 0, 0, 0⟩, true) from by unfold bareN; rw [if_neg c0, if_neg c1, if_neg c2, if_pos c4]]
    exact fin ⟨4, n.a, 0, n.mi, n.ma, 0, 0, 0, 0, 0⟩ true
  rename_i c4
  rw [iteB_beq]
  split
  · rename_i c5
    rw [show bareN n = (⟨5, n.a, 0, 0, 0, n.gr, 0, 0, 0, 0⟩, true) from by unfold bareN; rw [if_neg c0, if_neg c1, if_neg c2, if_neg c4, if_pos c5]]
    exact fin ⟨5, n.a, 0, 0, 0, n.gr, 0, 0, 0, 0⟩ true
  rename_i c5
  rw [show bareN n = (⟨0, 0, 0, 0, 0, 0, 0, 0, 0, 0⟩, false) from by unfold bareN; rw [if_neg c0, if_neg c1, if_neg c2, if_neg c4, if_neg c5]]
  exact fin ⟨0, 0, 0, 0, 0, 0, 0, 0, 0, 0⟩ false

/-! ### may -/
def inn (i c : Int) : Bool := decide (0 ≤ i ∧ i < c)
def mayF (n : Nd) (c : Int) : Bool :=
  (bareN n).2 && decide ((bareN n).1 = n) &&
  (if n.k = 2 ∨ n.k = 3 then inn n.a c && inn n.b c
   else if n.k = 4 then inn n.a c && decide (n.mi ≥ 0) && decide (n.mi ≤ 255) && (decide (n.ma = -1) || (decide (n.ma ≥ n.mi) && decide (n.ma ≤ 255)))
   else if n.k = 5 then inn n.a c && decide (n.gr ≥ 1) && decide (n.gr ≤ 1024)
   else true)
theorem is_eq {h : AHeap} {a : Nat × Nat} {c : Int} (hl : ldI h (a.1, a.2) .i64 = some c) (i : Int) : M_tree_may_1_s0 h i a = some (inn i c) := by
  unfold M_tree_may_1_s0 inn
  rw [hl]
  simp only [Option.bind_some]
  rw [iteB_and]
  simp only [Option.bind_some]
  congr 1
  rw [Bool.eq_iff_iff]
  simp
theorem may_eq (h : AHeap) (n : Nd) (c : Int) : M_tree_may h (nodeC n) c = some (mayF n c) := by
  unfold M_tree_may
  refine W.eq (W.need rfl ?_)
  simp only [Option.bind_some]
  obtain ⟨h1, e1⟩ : ∃ h1, h1 = h.push (.cells none 2 (nodeC n)) := ⟨_, rfl⟩
  obtain ⟨h2, e2⟩ : ∃ h2, h2 = h1.push (.cells none 2 [.int .i64 c]) := ⟨_, rfl⟩
  have z1 : h1.size = h.size + 1 := by rw [e1]; rfl
  have z2 : h2.size = h.size + 2 := by rw [e2]; simp; omega
  have g2 : h2.get h.size = some (.cells none 2 (nodeC n)) := by rw [e2, AHeap.get_push_old _ _ (by omega), e1, AHeap.get_push_new]
  have r2 : h2.get h1.size = some (.cells none 2 [.int .i64 c]) := by rw [e2, AHeap.get_push_new]
  rw [← e1, ← e2]
  have lA : ldA h2 (h.size, 0) 10 = some (nodeC n) := by rw [ldA_of g2 (by simp) (Nat.le_refl 10)]; rfl
  rw [lA]
  simp only [Option.bind_some]
  refine W.bind (W.mono (bare_spec (g := ⟨h.size, []⟩) h2 (by dsimp only; omega) rfl n) ?_)
  rintro ⟨⟨x2, x3⟩, h3⟩ ⟨eb, k3⟩
  obtain ⟨rfl, rfl⟩ := Prod.mk.inj eb
  dsimp only at k3 ⊢
  have z3 := k3.size
  obtain ⟨h5, e5, g5, k5, z5⟩ := var_st (h := h3) (g := ⟨h.size, []⟩) (z := zeroC) (cs := nodeC (bareN n).1) (n := 10) (may_ge (by omega)) rfl rfl rfl
  rw [e5]
  simp only [Option.bind_some]
  have o5 := k3.trans k5
  have gn : h5.get h.size = some (.cells none 2 (nodeC n)) := o5.keep g2 (by simp)
  have gc : h5.get h1.size = some (.cells none 2 [.int .i64 c]) := o5.keep r2 (by simp)
  have lm : ldA h5 (h3.size, 0) 10 = some (nodeC (bareN n).1) := by rw [ldA_of g5 (by simp) (Nat.le_refl 10)]; rfl
  have ln : ldA h5 (h.size, 0) 10 = some (nodeC n) := by rw [ldA_of gn (by simp) (Nat.le_refl 10)]; rfl
  have lc : ldI h5 (h1.size, 0) .i64 = some c := ldI_of gc (by simp) rfl
  have l0 : ldI h5 (h.size, 0) .i64 = some n.k := ldI_of gn (by simp) rfl
  have l1 : ldI h5 (h.size, 1) .i64 = some n.a := ldI_of gn (by simp) rfl
  have l2 : ldI h5 (h.size, 2) .i64 = some n.b := ldI_of gn (by simp) rfl
  have l3 : ldI h5 (h.size, 3) .i64 = some n.mi := ldI_of gn (by simp) rfl
  have l4 : ldI h5 (h.size, 4) .i64 = some n.ma := ldI_of gn (by simp) rfl
  have l5 : ldI h5 (h.size, 5) .i64 = some n.gr := ldI_of gn (by simp) rfl
  have his : ∀ i, M_tree_may_1_s0 h5 i (h1.size, 0) = some (inn i c) := fun i => is_eq (a := (h1.size, 0)) lc i
  simp only [lm, ln, l0, l1, l2, l3, l4, l5, his, eqNode, Option.bind_some]
  rw [iteB_or]
  simp only [Option.bind_some]
  unfold mayF
  by_cases hb : (bareN n).2 = true ∧ (bareN n).1 = n
  · rw [show ((!(bareN n).2) || (!(decide ((bareN n).1 = n)))) = false from by simp [hb.1, hb.2], show ((bareN n).2 && decide ((bareN n).1 = n)) = true from by simp [hb.1, hb.2]]
    simp only [iteB_false, Bool.true_and]
    rw [iteB_or]
    simp only [Option.bind_some]
    by_cases c2 : n.k = 2 ∨ n.k = 3
    · rw [if_pos c2, show ((n.k == 2) || (n.k == 3)) = true from by simpa using c2]
      simp only [iteB_true]
      cases inn n.a c <;> exact W.ret (by simp)
    · rw [if_neg c2, show ((n.k == 2) || (n.k == 3)) = false from by rw [Bool.eq_false_iff]; simpa using c2]
      simp only [iteB_false]
      rw [iteB_beq]
      split
      · rw [iteB_and]
        simp only [Option.bind_some]
        rw [iteB_and]
        simp only [Option.bind_some]
        rw [iteB_and]
        simp only [Option.bind_some]
        rw [iteB_or]
        simp only [Option.bind_some]
        rw [iteB_and]
        exact W.ret rfl
      · rw [iteB_beq]
        split
        · rw [iteB_and]
          simp only [Option.bind_some]
          rw [iteB_and]
          exact W.ret rfl
        · exact W.ret rfl
  · rw [show ((!(bareN n).2) || (!(decide ((bareN n).1 = n)))) = true from by
        cases h1 : (bareN n).2
        · simp
        · simp; intro h2; exact hb ⟨h1, h2⟩,
      show ((bareN n).2 && decide ((bareN n).1 = n)) = false from by
        rw [Bool.eq_false_iff]; simpa using hb]
    exact W.ret (by simp)
end Go.Abs.L
