/-
  SUMS: what the sums of a block are, when it is right, what a sealed one is: by the program, and by the document.
-/
import Derived.Test.YtklabpnclemmoaaLsums
import Derived.Test.YtklabpnclemmoaaLref03
import Derived.Test.YtklabpnclemmoaaOctalWrite
namespace Go.Abs.L
open Go.Abs
set_option linter.unusedVariables false
set_option linter.unusedSimpArgs false

/-! ### sums -/
/-- what a byte at a place counts -/
def cnt1 (sg : Bool) (i : Nat) (b : UInt8) : Int := if 148 ≤ i ∧ i < 156 then 32 else if sg = true ∧ 128 ≤ (b.toNat : Int) then b.toNat - 256 else b.toNat
def sumAt (sg : Bool) : Nat → List UInt8 → Int
  | _, [] => 0
  | i, b :: l => cnt1 sg i b + sumAt sg (i + 1) l
theorem cnt1_le (sg : Bool) (i : Nat) (b : UInt8) : -256 ≤ cnt1 sg i b ∧ cnt1 sg i b ≤ 255 := by
  have := byte_lt b
  unfold cnt1
  split
  · omega
  · split <;> omega
theorem cnt1_nonneg (i : Nat) (b : UInt8) : 0 ≤ cnt1 false i b := by
  have := byte_lt b
  unfold cnt1
  split
  · omega
  · rw [if_neg (by simp)]; omega
theorem sumAt_le (sg : Bool) : ∀ (l : List UInt8) (i : Nat), -256 * (l.length : Int) ≤ sumAt sg i l ∧ sumAt sg i l ≤ 255 * (l.length : Int)
  | [], i => by simp [sumAt]
  | b :: l, i => by
    have := cnt1_le sg i b
    have := sumAt_le sg l (i + 1)
    rw [sumAt]
    simp only [List.length_cons]
    omega
theorem sumAt_nonneg : ∀ (l : List UInt8) (i : Nat), 0 ≤ sumAt false i l
  | [], i => by simp [sumAt]
  | b :: l, i => by
    have := cnt1_nonneg i b
    have := sumAt_nonneg l (i + 1)
    rw [sumAt]; omega
theorem sumAt_app (sg : Bool) : ∀ (a b : List UInt8) (i : Nat), sumAt sg i (a ++ b) = sumAt sg i a + sumAt sg (i + a.length) b
  | [], b, i => by simp [sumAt]
  | x :: a, b, i => by
    rw [List.cons_append, sumAt, sumAt, sumAt_app sg a b (i + 1), List.length_cons]
    rw [show i + 1 + a.length = i + (a.length + 1) from by omega]
    omega
theorem sumAt_mid (sg : Bool) : ∀ (m : List UInt8) (i : Nat), 148 ≤ i → i + m.length ≤ 156 → sumAt sg i m = 32 * (m.length : Int)
  | [], i, _, _ => by simp [sumAt]
  | x :: m, i, h1, h2 => by
    simp only [List.length_cons] at h2
    rw [sumAt, sumAt_mid sg m (i + 1) (by omega) (by omega), cnt1, if_pos (by omega), List.length_cons]
    omega
theorem sumAt_set : ∀ (l : List UInt8) (i j : Nat) (c : UInt8) (hj : j < l.length), ¬ (148 ≤ i + j ∧ i + j < 156) → sumAt false i (l.set j c) = sumAt false i l + c.toNat - l[j].toNat
  | x :: l, i, 0, c, _, h => by
    have e : ∀ b, cnt1 false i b = b.toNat := by intro b; unfold cnt1; rw [if_neg (by omega), if_neg (by simp)]
    rw [List.set_cons_zero, sumAt, sumAt, e, e]
    simp; omega
  | x :: l, i, j + 1, c, hj, h => by
    rw [List.set_cons_succ, sumAt, sumAt, sumAt_set l (i + 1) j c (by simpa using hj) (by omega)]
    simp; omega

theorem i8_wrap {x : Int} (h : 0 ≤ x ∧ x ≤ 255) : IntKind.i8.wrap x = if 128 ≤ x then x - 256 else x := by
  simp only [IntKind.wrap, IntKind.bits, IntKind.signed]
  simp
  split <;> split <;> omega
theorem both_spec {g : Gd} (h : AHeap) (l : List UInt8) (hl : l.length ≤ 100000) (hfl : g.floor ≤ h.size) (hpr : g.prot = []) :
    W (M_sums_both g h l) fun r => r.1 = [.int .i64 (sumAt false 0 l), .int .i64 (sumAt true 0 l)] := by
  unfold M_sums_both
  simp only [Option.bind_some]
  obtain ⟨h1, e1⟩ : ∃ h1, h1 = h.push (.cells none 2 [.int .i64 (0 : Int), .int .i64 (0 : Int)]) := ⟨_, rfl⟩
  have z1 : h1.size = h.size + 1 := by rw [e1]; rfl
  have g1 : h1.get h.size = some (.cells none 2 [.int .i64 (0 : Int), .int .i64 (0 : Int)]) := by rw [e1, AHeap.get_push_new]
  rw [← e1]
  have may1 : g.may h1.size = true := may_new (by omega) (by simp [hpr])
  have may0 : g.may h.size = true := may_new hfl (by simp [hpr])
  refine W.bind (W.mono (Q := fun h6 => h6.get h1.size = some (.cells none 2 (arr .i64 [sumAt false 0 l, sumAt true 0 l])) ∧ h6.get h.size = some (.cells none 2 [.int .i64 (0 : Int), .int .i64 (0 : Int)])) ?_ ?_)
  · refine W.loop (fun s => ∃ (i : Nat) (A B : Int), s.1 = i ∧ i ≤ l.length ∧ s.2.get h1.size = some (.cells none 2 (arr .i64 [A, B])) ∧ s.2.get h.size = some (.cells none 2 [.int .i64 (0 : Int), .int .i64 (0 : Int)]) ∧ sumAt false 0 l = A + sumAt false i (l.drop i) ∧ sumAt true 0 l = B + sumAt true i (l.drop i)) (fun s => l.length - s.1.toNat) ⟨0, 0, 0, rfl, by omega, AHeap.get_push_new _ _, by dsimp only; rw [AHeap.get_push_old _ _ (by omega)]; exact g1, by simp, by simp⟩ ?_
    rintro ⟨_, h3⟩ ⟨i, A, B, rfl, hi, ga, gb, sa, sb⟩
    dsimp only at ga gb
    have z3 := h3.lt_of_get ga
    unfold M_sums_both_L0
    dsimp only
    refine W.iteP (fun hlt => ?_) (fun hge => ?_)
    · have hlt : i < l.length := by omega
      have hb := byte_lt l[i]
      rw [drop_cons hlt, sumAt] at sa sb
      have bA := sumAt_le false l 0
      have bB := sumAt_le true l 0
      have b1 := sumAt_le false (l.drop (i + 1)) (i + 1)
      have b2 := sumAt_le true (l.drop (i + 1)) (i + 1)
      have c1 := cnt1_le false i l[i]
      have c2 := cnt1_le true i l[i]
      have hdl : (l.drop (i + 1)).length ≤ l.length := by simp
      rw [ixS_nat (List.getElem?_eq_getElem hlt)]
      simp only [Option.bind_some]
      have ec : iteB (decide ((i : Int) ≥ 148) && decide ((i : Int) < 156)) (some (32 : Int)) (some (l[i].toNat : Int)) = some (if 148 ≤ i ∧ i < 156 then 32 else (l[i].toNat : Int)) := by
        by_cases hc : 148 ≤ i ∧ i < 156
        · rw [if_pos hc, show (decide ((i : Int) ≥ 148) && decide ((i : Int) < 156)) = true from by simp; omega]; rfl
        · rw [if_neg hc, show (decide ((i : Int) ≥ 148) && decide ((i : Int) < 156)) = false from by rw [Bool.eq_false_iff]; simp; omega]; rfl
      rw [ec, show (0 : Int) = ((0 : Nat) : Int) from rfl, show (1 : Int) = ((1 : Nat) : Int) from rfl, ixA_nat (by omega), ixA_nat (by omega)]
      simp only [Option.bind_some]
      obtain ⟨x, hx⟩ : ∃ x : Int, x = if 148 ≤ i ∧ i < 156 then 32 else (l[i].toNat : Int) := ⟨_, rfl⟩
      have hxr : 0 ≤ x ∧ x ≤ 255 := by rw [hx]; split <;> omega
      have x1 : x = cnt1 false i l[i] := by
        rw [hx]; unfold cnt1
        split
        · rfl
        · rw [if_neg (by simp)]
      have x2 : IntKind.i8.wrap x = cnt1 true i l[i] := by
        rw [i8_wrap hxr, hx]; unfold cnt1
        split
        · rw [if_neg (by omega)]
        · simp
      rw [← hx]
      have lA : ldI h3 (h1.size, 0 + 0 * 1) .i64 = some A := arr_ld ga (by simp) rfl
      rw [lA]
      simp only [Option.bind_some]
      rw [w64 (x := x) (by omega) (by omega), w64 (x := A + x) (by omega) (by omega), arr_st ga may1 (by simp)]
      simp only [Option.bind_some, List.set_cons_zero]
      obtain ⟨h4, e4⟩ : ∃ h4, h4 = h3.set h1.size (.cells none 2 (arr .i64 [A + x, B])) := ⟨_, rfl⟩
      have g4 : h4.get h1.size = some (.cells none 2 (arr .i64 [A + x, B])) := by rw [e4, AHeap.get_set_same _ _ z3]
      rw [← e4]
      have lB : ldI h4 (h1.size, 0 + 1 * 1) .i64 = some B := arr_ld g4 (by simp) rfl
      rw [lB]
      simp only [Option.bind_some]
      rw [x2, w64 (x := cnt1 true i l[i]) (by omega) (by omega), w64 (x := B + cnt1 true i l[i]) (by omega) (by omega), arr_st g4 may1 (by simp)]
      simp only [Option.bind_some, List.set_cons_succ, List.set_cons_zero]
      have ek : IntKind.i64.wrap ((i : Int) + ((1 : Nat) : Int)) = ((i + 1 : Nat) : Int) := ek64 (by omega)
      rw [ek]
      refine W.ret ⟨⟨i + 1, A + x, B + cnt1 true i l[i], rfl, by omega, ?_, ?_, by omega, by omega⟩, by dsimp only; omega⟩
      · dsimp only
        rw [AHeap.get_set_same _ _ (by rw [e4]; exact z3)]
      · dsimp only
        rw [AHeap.get_set_ne _ _ (by rw [e4]; exact z3) (by omega), e4, AHeap.get_set_ne _ _ z3 (by omega)]; exact gb
    · have : i = l.length := by omega
      subst this
      rw [List.drop_length, sumAt] at sa sb
      refine W.ret ⟨?_, gb⟩
      rw [ga, sa, sb]; simp
  · rintro h6 ⟨ga, gb⟩
    have z0 := h6.lt_of_get gb
    have l1 : ldA h6 (h1.size, 0) 2 = some (arr .i64 [sumAt false 0 l, sumAt true 0 l]) := by rw [ldA_of ga (by simp) (by simp)]; rfl
    rw [l1]
    simp only [Option.bind_some]
    rw [stG_of gb may0 (by rfl) (by simp) (arr_one _ _), splice_all (by rfl)]
    simp only [Option.bind_some]
    have g7 := AHeap.get_set_same h6 (.cells none 2 (arr .i64 [sumAt false 0 l, sumAt true 0 l])) z0
    have l2 : ldA (h6.set h.size (.cells none 2 (arr .i64 [sumAt false 0 l, sumAt true 0 l]))) (h.size, 0) 2 = some (arr .i64 [sumAt false 0 l, sumAt true 0 l]) := by rw [ldA_of g7 (by simp) (by simp)]; rfl
    rw [l2]
    exact W.ret rfl

theorem sum_eq (h : AHeap) (l : List UInt8) : M_sums_Sum h l = some (if l.length = 512 then (sumAt false 0 l, 0) else (0, 1)) := by
  unfold M_sums_Sum
  by_cases hl : l.length = 512
  · rw [if_pos hl, show ((l.length : Int) != 512) = false from by simp; omega]
    simp only [iteB_false]
    refine W.eq (W.bind (W.mono (both_spec h l (by omega) (Nat.le_refl _) rfl) ?_))
    rintro ⟨_, h1⟩ rfl
    exact W.ret rfl
  · rw [if_neg hl, show ((l.length : Int) != 512) = true from by simp; omega]; rfl
theorem signed_eq (h : AHeap) (l : List UInt8) : M_sums_Signed h l = some (if l.length = 512 then (sumAt true 0 l, 0) else (0, 1)) := by
  unfold M_sums_Signed
  by_cases hl : l.length = 512
  · rw [if_pos hl, show ((l.length : Int) != 512) = false from by simp; omega]
    simp only [iteB_false]
    refine W.eq (W.bind (W.mono (both_spec h l (by omega) (Nat.le_refl _) rfl) ?_))
    rintro ⟨_, h1⟩ rfl
    exact W.ret rfl
  · rw [if_neg hl, show ((l.length : Int) != 512) = true from by simp; omega]; rfl
theorem rsum_eq (h : AHeap) (l : List UInt8) (sg : Bool) (hl : l.length = 512) : M_boulterref03_Sum h l sg = some (sumAt sg 0 l) := by
  unfold M_boulterref03_Sum
  refine W.eq (W.bind (W.mono (Q := fun x => x = sumAt sg 0 l) ?_ (by rintro _ rfl; exact W.ret rfl)))
  refine W.loop (fun s => ∃ i : Nat, s.2 = i ∧ i ≤ 512 ∧ sumAt sg 0 l = s.1 + sumAt sg i (l.drop i)) (fun s => 512 - s.2.toNat) ⟨0, rfl, by omega, by simp⟩ ?_
  rintro ⟨A, _⟩ ⟨i, rfl, hi, sa⟩
  dsimp only at sa
  unfold M_boulterref03_Sum_L0
  dsimp only
  refine W.iteP (fun hlt => ?_) (fun hge => ?_)
  · have hlt : i < l.length := by omega
    have hb := byte_lt l[i]
    rw [drop_cons hlt, sumAt] at sa
    have bA := sumAt_le sg l 0
    have b1 := sumAt_le sg (l.drop (i + 1)) (i + 1)
    have c1 := cnt1_le sg i l[i]
    have hdl : (l.drop (i + 1)).length ≤ l.length := by simp
    rw [ixS_nat (List.getElem?_eq_getElem hlt)]
    simp only [Option.bind_some]
    have e : iteB (decide ((i : Int) ≥ 148) && decide ((i : Int) ≤ 155)) (some (IntKind.i64.wrap (A + 32))) ((iteB sg (some (decide ((l[i].toNat : Int) ≥ 128))) (some false)).bind fun x7 => iteB x7 (some (IntKind.i64.wrap (A + IntKind.i64.wrap (IntKind.i64.wrap (l[i].toNat : Int) - 256)))) (some (IntKind.i64.wrap (A + IntKind.i64.wrap (l[i].toNat : Int))))) = some (A + cnt1 sg i l[i]) := by
      unfold cnt1
      by_cases hc : 148 ≤ i ∧ i < 156
      · rw [if_pos hc, show (decide ((i : Int) ≥ 148) && decide ((i : Int) ≤ 155)) = true from by simp; omega, w64 (by omega) (by omega)]; rfl
      · rw [if_neg hc, show (decide ((i : Int) ≥ 148) && decide ((i : Int) ≤ 155)) = false from by rw [Bool.eq_false_iff]; simp; omega]
        rw [iteB_and, w64 (x := (l[i].toNat : Int)) (by omega) (by omega), w64 (x := (l[i].toNat : Int) - 256) (by omega) (by omega), w64 (x := A + (l[i].toNat - 256)) (by omega) (by omega), w64 (x := A + l[i].toNat) (by omega) (by omega)]
        simp only [iteB_false, Option.bind_some]
        by_cases hs : sg = true ∧ 128 ≤ (l[i].toNat : Int)
        · rw [if_pos hs, show (sg && decide ((l[i].toNat : Int) ≥ 128)) = true from by simpa using hs]; rfl
        · rw [if_neg hs, show (sg && decide ((l[i].toNat : Int) ≥ 128)) = false from by rw [Bool.eq_false_iff]; simpa using hs]; rfl
    rw [e, ek64 (by omega)]
    simp only [Option.bind_some]
    exact W.ret ⟨⟨i + 1, rfl, by omega, by dsimp only; omega⟩, by dsimp only; omega⟩
  · have : i = l.length := by omega
    subst this
    rw [List.drop_length, sumAt] at sa
    exact W.ret (by omega)

/-! ### right blocks -/
def rightF (l : List UInt8) : Bool :=
  if l.length = 512 then
    if 128 ≤ ((l.getD 148 0).toNat : Int) then false
    else decide ((readF ((l.drop 148).take 8)).2 = 0 ∧ ((readF ((l.drop 148).take 8)).1 = sumAt false 0 l ∨ (readF ((l.drop 148).take 8)).1 = sumAt true 0 l))
  else false
theorem sub_field {l : List UInt8} (hl : l.length = 512) : subS l (some 148) (some 156) = some ((l.drop 148).take 8) := by
  unfold subS
  rw [bnd_both (by omega)]; rfl
theorem right_eq (h : AHeap) (l : List UInt8) : M_sums_Right h l = some (rightF l) := by
  unfold M_sums_Right rightF
  by_cases hl : l.length = 512
  · have h148 : 148 < l.length := by omega
    have e0 : ixS l 148 = some (l[148].toNat : Int) := ixS_nat (i := 148) (List.getElem?_eq_getElem h148)
    have eg : l.getD 148 0 = l[148] := by simp [List.getD_eq_getElem?_getD, List.getElem?_eq_getElem h148]
    rw [if_pos hl, show ((l.length : Int) != 512) = false from by simp; omega, e0, eg, sub_field hl]
    simp only [iteB_false, Option.bind_some]
    rw [iteB_dec]
    split
    · rfl
    · rename_i hlt
      rw [read_eq]
      obtain ⟨v, e, er⟩ : ∃ v e, readF ((l.drop 148).take 8) = (v, e) := ⟨_, _, rfl⟩
      rw [er]
      simp only [Option.bind_some]
      rw [iteB_bne]
      split
      · rename_i he
        subst he
        refine W.eq (W.bind (W.mono (both_spec h l (by omega) (Nat.le_refl _) rfl) ?_))
        rintro ⟨_, h1⟩ rfl
        dsimp only
        have hloop : loop (M_sums_Right_L0 v [.int .i64 (sumAt false 0 l), .int .i64 (sumAt true 0 l)]) 0 = some (if v = sumAt false 0 l ∨ v = sumAt true 0 l then .inr true else .inl ()) := by
          have s0 : M_sums_Right_L0 v [.int .i64 (sumAt false 0 l), .int .i64 (sumAt true 0 l)] 0 = iteB (v == sumAt false 0 l) (some (.inr (.inr true))) (some (.inl 1)) := rfl
          have s1 : M_sums_Right_L0 v [.int .i64 (sumAt false 0 l), .int .i64 (sumAt true 0 l)] 1 = iteB (v == sumAt true 0 l) (some (.inr (.inr true))) (some (.inl 2)) := rfl
          have s2 : M_sums_Right_L0 v [.int .i64 (sumAt false 0 l), .int .i64 (sumAt true 0 l)] 2 = some (.inr (.inl ())) := rfl
          rw [iteB_beq] at s0 s1
          by_cases h1 : v = sumAt false 0 l
          · rw [if_pos (.inl h1)]; rw [if_pos h1] at s0; exact loop_end s0
          · rw [if_neg h1] at s0
            rw [loop_step s0]
            by_cases h2 : v = sumAt true 0 l
            · rw [if_pos (.inr h2)]; rw [if_pos h2] at s1; exact loop_end s1
            · rw [if_neg h2] at s1
              rw [loop_step s1, loop_end s2, if_neg (by omega)]
        rw [hloop]
        simp only [Option.bind_some]
        by_cases hv : v = sumAt false 0 l ∨ v = sumAt true 0 l
        · rw [if_pos hv]; exact W.ret (by simp [hv])
        · rw [if_neg hv]; exact W.ret (by simp [hv])
      · rename_i he
        simp [he]
  · rw [if_neg hl, show ((l.length : Int) != 512) = true from by simp; omega]; rfl
theorem rright_eq (h : AHeap) (l : List UInt8) : M_boulterref03_Right h l = some (rightF l) := by
  unfold M_boulterref03_Right rightF
  by_cases hl : l.length = 512
  · have h148 : 148 < l.length := by omega
    have e0 : ixS l 148 = some (l[148].toNat : Int) := ixS_nat (i := 148) (List.getElem?_eq_getElem h148)
    have eg : l.getD 148 0 = l[148] := by simp [List.getD_eq_getElem?_getD, List.getElem?_eq_getElem h148]
    rw [if_pos hl, show ((l.length : Int) != 512) = false from by simp; omega, e0, eg, sub_field hl]
    simp only [iteB_false, Option.bind_some]
    rw [iteB_dec]
    split
    · rfl
    · rename_i hlt
      rw [ref_eq, ← read_ref, rsum_eq h l false hl, rsum_eq h l true hl]
      obtain ⟨v, e, er⟩ : ∃ v e, readF ((l.drop 148).take 8) = (v, e) := ⟨_, _, rfl⟩
      rw [er]
      simp only [Option.bind_some]
      rw [iteB_or]
      simp only [Option.bind_some]
      rw [iteB_and]
      simp only [Option.bind_some]
      congr 1
      rw [Bool.eq_iff_iff]
      simp
  · rw [if_neg hl, show ((l.length : Int) != 512) = true from by simp; omega]; rfl

/-! ### sealed blocks -/
def sealF (l : List UInt8) : List UInt8 := l.take 148 ++ ((octD (sumAt false 0 l) 6 ++ [0, 32]) ++ l.drop 156)
theorem sealF_length {l : List UInt8} (hl : l.length = 512) : (sealF l).length = 512 := by simp [sealF, octD_length, hl]
theorem sum_range {l : List UInt8} (hl : l.length = 512) : 0 ≤ sumAt false 0 l ∧ sumAt false 0 l ≤ 130560 := by
  have := sumAt_le false l 0
  have := sumAt_nonneg l 0
  omega
theorem seal_eq (h : AHeap) (l : List UInt8) : M_sums_Seal h l = some (if l.length = 512 then (sealF l, 0) else ([], 1)) := by
  unfold M_sums_Seal
  by_cases hl : l.length = 512
  · have hs := sum_range hl
    rw [if_pos hl, show ((l.length : Int) != 512) = false from by simp; omega]
    simp only [iteB_false]
    refine W.eq (W.bind (W.mono (both_spec h l (by omega) (Nat.le_refl _) rfl) ?_))
    rintro ⟨_, h1⟩ rfl
    dsimp only
    have ei : ((ixG [.int .i64 (sumAt false 0 l), .int .i64 (sumAt true 0 l)] 2 1 0).bind (asI .i64)) = some (sumAt false 0 l) := rfl
    have eo : octF (sumAt false 0 l) 7 = (octD (sumAt false 0 l) 6 ++ [0], true) := by
      unfold octF
      have e : ((7 : Int) - 1).toNat = 6 := rfl
      rw [e, if_pos ⟨by omega, by omega, by omega, by simp only [Int.reducePow]; omega⟩]
    have s1 : subS l none (some 148) = some (l.take 148) := subS_hi (k := 148) (by omega)
    have s2 : subS l (some 156) none = some (l.drop 156) := subS_lo (k := 156) (by omega)
    rw [ei]
    simp only [Option.bind_some]
    rw [octal_eq h1 7 (by omega), eo]
    simp only [Option.bind_some, s1, s2]
    have hol := octD_length (sumAt false 0 l) 6
    refine W.need (by simp [hl, hol]) (W.need (by simp [hl, hol]) (W.need (by simp [hl, hol]) (W.ret ?_)))
    simp [sealF]
  · rw [if_neg hl, show ((l.length : Int) != 512) = true from by simp; omega]; rfl
theorem rseal_eq (h : AHeap) (l : List UInt8) (hl : l.length = 512) : M_boulterref03_Seal h l = some (sealF l) := by
  unfold M_boulterref03_Seal
  have hs := sum_range hl
  rw [rsum_eq h l false hl]
  simp only [Option.bind_some]
  refine W.eq (W.bind (W.mono (Q := fun s => s = octD (sumAt false 0 l) 6) ?_ ?_))
  · refine W.loop (fun s => ∃ m : Nat, m ≤ 6 ∧ s.2.2 = (m : Int) ∧ s.1 = sumAt false 0 l / 8 ^ m ∧ s.2.1 = octD (sumAt false 0 l) m) (fun s => 6 - s.2.2.toNat) ⟨0, by omega, rfl, by simp, rfl⟩ ?_
    rintro ⟨_, _, _⟩ ⟨m, hm, rfl, rfl, rfl⟩
    unfold M_boulterref03_Seal_L0
    dsimp only
    refine W.iteP (fun hlt => ?_) (fun hge => ?_)
    · have hp : (0 : Int) < 8 ^ m := Int.pow_pos (by omega)
      have hd := div_le hs.1 hp
      rw [Int.tmod_eq_emod_of_nonneg hd.1, Int.tdiv_eq_ediv_of_nonneg hd.1, w64 (x := sumAt false 0 l / 8 ^ m % 8 + 1) (by omega) (by omega), dig_sub _ (by omega), ek64 (by omega), w64 (by omega) (by omega), ← div_pow8]
      simp only [Option.bind_some]
      refine W.need (by simp [octD_length]; omega) (W.ret ⟨⟨m + 1, by omega, rfl, rfl, rfl⟩, by dsimp only; omega⟩)
    · have : m = 6 := by omega
      subst this
      exact W.ret rfl
  · rintro _ rfl
    have s1 : subS l none (some 148) = some (l.take 148) := subS_hi (k := 148) (by omega)
    have s2 : subS l (some 156) none = some (l.drop 156) := subS_lo (k := 156) (by omega)
    have hol := octD_length (sumAt false 0 l) 6
    simp only [Option.bind_some, s1, s2]
    refine W.need (by simp [hl, hol]) (W.need (by simp [hl, hol]) (W.need (by simp [hl, hol]) (W.ret ?_)))
    simp [sealF]
theorem sum_sealed {l : List UInt8} (hl : l.length = 512) (sg : Bool) (m : List UInt8) (hm : m.length = 8) : sumAt sg 0 (l.take 148 ++ (m ++ l.drop 156)) = sumAt sg 0 l := by
  have e : l = l.take 148 ++ ((l.drop 148).take 8 ++ l.drop 156) := by
    have : l.drop 156 = (l.drop 148).drop 8 := by rw [List.drop_drop]
    rw [this, List.take_append_drop, List.take_append_drop]
  have h1 : (l.take 148).length = 148 := by simp; omega
  have h2 : ((l.drop 148).take 8).length = 8 := by simp; omega
  conv => rhs; rw [e]
  rw [sumAt_app, sumAt_app, sumAt_app sg _ _ 0, sumAt_app, h1, hm, h2, sumAt_mid sg m _ (by omega) (by omega), sumAt_mid sg _ (0 + 148) (by omega) (by omega), hm, h2]
theorem sum_seal {l : List UInt8} (hl : l.length = 512) (sg : Bool) : sumAt sg 0 (sealF l) = sumAt sg 0 l := sum_sealed hl sg _ (by simp [octD_length])
theorem field_seal {l : List UInt8} (hl : l.length = 512) : ((sealF l).drop 148).take 8 = octD (sumAt false 0 l) 6 ++ [0, 32] := by
  have h1 : (l.take 148).length = 148 := by simp; omega
  unfold sealF
  rw [List.drop_append_of_le_length (by omega), List.drop_of_length_le (by omega), List.nil_append]
  have : (octD (sumAt false 0 l) 6 ++ [0, 32]).length = 8 := by simp [octD_length]
  rw [← this, List.take_left]
theorem read_field {v : Int} (hv : 0 ≤ v ∧ v < 262144) : readF (octD v 6 ++ [0, 32]) = (v, 0) := by
  have e : readF (octD v 6 ++ [0, 32]) = mach 0 0 false (octD v 6 ++ [0, 32]) := by
    rw [octD, List.cons_append, readF, if_neg (by simp [octD_length]), if_neg (by rw [dg_toNat]; omega)]
  rw [e, mach_oct0 (m := 5) (by omega) _ (by show v < 8 ^ 6; simp only [Int.reducePow]; omega)]
  rfl
theorem get_seal {l : List UInt8} (hl : l.length = 512) : ((sealF l).getD 148 0) = dg (sumAt false 0 l / 8 ^ 5) := by
  have h1 : (l.take 148).length = 148 := by simp; omega
  unfold sealF
  rw [List.getD_eq_getElem?_getD, List.getElem?_append_right (by omega), h1]
  rfl
theorem right_seal {l : List UInt8} (hl : l.length = 512) : rightF (sealF l) = true := by
  have hs := sum_range hl
  unfold rightF
  rw [if_pos (sealF_length hl), get_seal hl, if_neg (by rw [dg_toNat]; omega), field_seal hl, read_field (by omega), sum_seal hl]
  simp
theorem seal_seal {l : List UInt8} (hl : l.length = 512) : sealF (sealF l) = sealF l := by
  have h1 : (l.take 148).length = 148 := by simp; omega
  have h2 : (octD (sumAt false 0 l) 6 ++ [0, 32]).length = 8 := by simp [octD_length]
  have e1 : (sealF l).take 148 = l.take 148 := by
    unfold sealF
    rw [List.take_append_of_le_length (by omega), List.take_of_length_le (by omega)]
  have e2 : (sealF l).drop 156 = l.drop 156 := by
    unfold sealF
    rw [← List.append_assoc]
    have : 156 = (l.take 148 ++ (octD (sumAt false 0 l) 6 ++ [0, 32])).length := by rw [List.length_append, h1, h2]
    have key := @List.drop_left UInt8 (l.take 148 ++ (octD (sumAt false 0 l) 6 ++ [0, 32])) (l.drop 156)
    rw [← this] at key
    exact key
  rw [sealF, e1, e2, sum_seal hl]
  rfl

/-! ### blocks of NULs; blocks of a text -/
theorem blank_eq (h : AHeap) (l : List UInt8) (hl : l.length ≤ 100000) : M_sums_Blank h l = some (decide ((∀ b ∈ l, b = 0) ∧ l.length = 512)) := by
  unfold M_sums_Blank
  refine W.eq (W.bind (W.mono (Q := fun o => (o = .inl () ∧ ∀ b ∈ l, b = 0) ∨ (o = .inr false ∧ ¬ ∀ b ∈ l, b = 0)) ?_ ?_))
  · refine W.loop (fun s => ∃ i : Nat, s = i ∧ i ≤ l.length ∧ ∀ b ∈ l.take i, b = 0) (fun s => l.length - s.toNat) ⟨0, rfl, by omega, by simp⟩ ?_
    rintro _ ⟨i, rfl, hi, hz⟩
    unfold M_sums_Blank_L0
    dsimp only
    refine W.iteP (fun hlt => ?_) (fun hge => ?_)
    · have hlt : i < l.length := by omega
      rw [ixS_nat (List.getElem?_eq_getElem hlt)]
      simp only [Option.bind_some]
      rw [iteB_bne]
      split
      · rename_i hb
        rw [ek64 (by omega)]
        refine W.ret ⟨⟨i + 1, rfl, by omega, ?_⟩, by omega⟩
        intro b hb'
        rw [take_snoc (List.getElem?_eq_getElem hlt)] at hb'
        rcases List.mem_append.1 hb' with h1 | h1
        · exact hz b h1
        · simp at h1
          rw [h1]
          exact UInt8.toNat_inj.1 (by simpa using hb)
      · rename_i hb
        refine W.ret (.inr ⟨rfl, fun hall => hb ?_⟩)
        rw [hall _ (List.getElem_mem hlt)]; rfl
    · have : i = l.length := by omega
      subst this
      rw [List.take_length] at hz
      exact W.ret (.inl ⟨rfl, hz⟩)
  · rintro o (⟨rfl, hz⟩ | ⟨rfl, hz⟩)
    · refine W.ret ?_
      by_cases h5 : l.length = 512
      · rw [show ((l.length : Int) == 512) = true from by simp; omega]; exact (decide_eq_true ⟨hz, h5⟩).symm
      · rw [show ((l.length : Int) == 512) = false from by simp; omega]; simp [hz, h5]
    · exact W.ret (by simp [hz])
end Go.Abs.L
