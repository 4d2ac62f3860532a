/-
  OCTAL: what reading a field tells: by the program, and by the document.
-/
import Derived.Test.YtklabpnclemmoaaLoctal
import Derived.Test.YtklabpnclemmoaaLref01
import Derived.Test.YtklabpnclemmoaaAbsKit
namespace Go.Abs.L
open Go.Abs
set_option linter.unusedVariables false
set_option linter.unusedSimpArgs false

/-! ### the program -/
def fin (v : Int) (over : Bool) : Int × Int := if over then (0, 6) else (v, 0)
/-- digits: where it is (0 ahead, 1 within, 2 behind), the number, whether it was too great -/
def mach : Int → Int → Bool → List UInt8 → Int × Int
  | _, v, over, [] => fin v over
  | w, v, over, b :: l =>
    if 48 ≤ (b.toNat : Int) ∧ (b.toNat : Int) ≤ 55 ∧ w ≠ 2 then (if v * 8 + (b.toNat - 48) > 9007199254740991 then mach 1 0 true l else mach 1 (v * 8 + (b.toNat - 48)) over l)
    else if (b.toNat : Int) = 32 ∧ w = 0 then mach w v over l
    else if (b.toNat : Int) = 32 ∨ (b.toNat : Int) = 0 then mach 2 v over l
    else (0, 2)
theorem digits_eq (h : AHeap) (l : List UInt8) (hl : l.length ≤ 1000) : M_octal_digits h l = some (mach 0 0 false l) := by
  unfold M_octal_digits
  refine W.eq (W.bind (W.mono (Q := fun o => match o with | .inl (v, ov) => mach 0 0 false l = fin v ov | .inr (a, b) => mach 0 0 false l = (a, b)) ?_ ?_))
  · refine W.loop (fun s => ∃ i : Nat, s.2.2.2 = i ∧ i ≤ l.length ∧ 0 ≤ s.2.1 ∧ s.2.1 ≤ 9007199254740991 ∧ mach 0 0 false l = mach s.1 s.2.1 s.2.2.1 (l.drop i)) (fun s => l.length - s.2.2.2.toNat) ⟨0, rfl, by omega, by simp, by simp, by simp⟩ ?_
    rintro ⟨w, v, ov, _⟩ ⟨i, rfl, hi, hv0, hv1, hm⟩
    dsimp only at hv0 hv1 hm
    unfold M_octal_digits_L0
    dsimp only
    refine W.iteP (fun hlt => ?_) (fun hge => ?_)
    · have hlt : i < l.length := by omega
      rw [ixS_nat (List.getElem?_eq_getElem hlt)]
      have hb := byte_lt l[i]
      rw [drop_cons hlt, mach] at hm
      simp only [Option.bind_some]
      rw [ek64 (by omega)]
      by_cases hd : 48 ≤ (l[i].toNat : Int) ∧ (l[i].toNat : Int) ≤ 55 ∧ w ≠ 2
      · have e1 : ((decide ((l[i].toNat : Int) ≥ 48) && decide ((l[i].toNat : Int) ≤ 55)) && (w != 2)) = true := by simp [hd]
        have e2 : bOr .i64 (bShl .i64 v 3) (IntKind.i64.wrap (IntKind.u8.wrap ((l[i].toNat : Int) - 48))) = v * 8 + (l[i].toNat - 48) := by
          rw [wu8 (by omega) (by omega), w64 (by omega) (by omega), bShl_3 (by omega) (by omega), bOr_3 (by omega) (by omega) (by omega)]
        rw [if_pos hd] at hm
        rw [e1, e2]
        simp only [iteB_true]
        by_cases ho : v * 8 + ((l[i].toNat : Int) - 48) > 9007199254740991
        · rw [if_pos ho] at hm
          rw [show decide (v * 8 + ((l[i].toNat : Int) - 48) > 9007199254740991) = true from by simpa using ho]
          exact W.ret ⟨⟨i + 1, rfl, by omega, by simp, by simp, hm⟩, by dsimp only; omega⟩
        · rw [if_neg ho] at hm
          rw [show decide (v * 8 + ((l[i].toNat : Int) - 48) > 9007199254740991) = false from by simpa using ho]
          exact W.ret ⟨⟨i + 1, rfl, by omega, by dsimp only; omega, by dsimp only; omega, hm⟩, by dsimp only; omega⟩
      · have e1 : ((decide ((l[i].toNat : Int) ≥ 48) && decide ((l[i].toNat : Int) ≤ 55)) && (w != 2)) = false := by
          rw [Bool.eq_false_iff]; simpa using hd
        rw [if_neg hd] at hm
        rw [e1]
        simp only [iteB_false]
        by_cases h1 : (l[i].toNat : Int) = 32 ∧ w = 0
        · rw [if_pos h1] at hm
          rw [show (((l[i].toNat : Int) == 32) && (w == 0)) = true from by simp [h1]]
          exact W.ret ⟨⟨i + 1, rfl, by omega, hv0, hv1, hm⟩, by dsimp only; omega⟩
        · rw [if_neg h1] at hm
          rw [show (((l[i].toNat : Int) == 32) && (w == 0)) = false from by rw [Bool.eq_false_iff]; simpa using h1]
          simp only [iteB_false]
          by_cases h2 : (l[i].toNat : Int) = 32 ∨ (l[i].toNat : Int) = 0
          · rw [if_pos h2] at hm
            rw [show (((l[i].toNat : Int) == 32) || ((l[i].toNat : Int) == 0)) = true from by simpa using h2]
            exact W.ret ⟨⟨i + 1, rfl, by omega, hv0, hv1, hm⟩, by dsimp only; omega⟩
          · rw [if_neg h2] at hm
            rw [show (((l[i].toNat : Int) == 32) || ((l[i].toNat : Int) == 0)) = false from by rw [Bool.eq_false_iff]; simpa using h2]
            exact W.ret hm
    · have : i = l.length := by omega
      subst this
      rw [List.drop_length] at hm
      exact W.ret hm
  · rintro (⟨v, ov⟩ | ⟨a, b⟩) ho
    · dsimp only at ho ⊢
      rw [ho]
      unfold fin
      cases ov <;> exact W.ret rfl
    · exact W.ret ho.symm

/-- binary: what comes of bytes -/
def bitsF : Int → List UInt8 → Int × Int
  | v, [] => if v < -9007199254740991 then (0, 6) else (v, 0)
  | v, b :: l => if v * 256 + b.toNat > 9007199254740991 ∨ v * 256 + b.toNat < -9007199254740992 then (0, 6) else bitsF (v * 256 + b.toNat) l
theorem bits_eq (h : AHeap) (b : UInt8) (l : List UInt8) (hl : l.length ≤ 1000) : M_octal_bits h (b :: l) = some (bitsF (if (b.toNat : Int) = 255 then -1 else 0) l) := by
  unfold M_octal_bits
  obtain ⟨v0, hv0⟩ : ∃ v0 : Int, v0 = (if (b.toNat : Int) = 255 then -1 else 0) := ⟨_, rfl⟩
  have hr0 : -1 ≤ v0 ∧ v0 ≤ 0 := by rw [hv0]; split <;> omega
  have e0 : ixS (b :: l) 0 = some (b.toNat : Int) := ixS_nat (i := 0) rfl
  have e1 : iteB ((b.toNat : Int) == 255) (some (-1 : Int)) (some 0) = some v0 := by rw [iteB_beq, hv0]; split <;> rfl
  rw [e0, ← hv0]
  simp only [Option.bind_some, e1]
  refine W.eq (W.bind (W.mono (Q := fun o => match o with | .inl v => bitsF v0 l = bitsF v [] | .inr (a, c) => bitsF v0 l = (a, c)) ?_ ?_))
  · refine W.loop (fun s => ∃ i : Nat, s.2 = ((i + 1 : Nat) : Int) ∧ i ≤ l.length ∧ -9007199254740992 ≤ s.1 ∧ s.1 ≤ 9007199254740991 ∧ bitsF v0 l = bitsF s.1 (l.drop i)) (fun s => l.length + 1 - s.2.toNat) ⟨0, rfl, by omega, by dsimp only; omega, by dsimp only; omega, by simp⟩ ?_
    rintro ⟨v, _⟩ ⟨i, rfl, hi, hv0, hv1, hm⟩
    dsimp only at hv0 hv1 hm
    unfold M_octal_bits_L0
    dsimp only
    refine W.iteP (fun hlt => ?_) (fun hge => ?_)
    · have hlt : i < l.length := by simp at hlt; omega
      rw [ixS_nat (i := i + 1) (b := l[i]) (by simp [hlt])]
      have hb := byte_lt l[i]
      rw [drop_cons hlt, bitsF] at hm
      have e2 : bOr .i64 (bShl .i64 v 8) (IntKind.i64.wrap (l[i].toNat : Int)) = v * 256 + l[i].toNat := by
        rw [w64 (by omega) (by omega), bShl_8 (by omega) (by omega), bOr_8 (by omega) (by omega) (by omega)]
      simp only [Option.bind_some, e2]
      rw [ek64 (by omega)]
      by_cases ho : v * 256 + (l[i].toNat : Int) > 9007199254740991 ∨ v * 256 + (l[i].toNat : Int) < -9007199254740992
      · rw [if_pos ho] at hm
        rw [show (decide (v * 256 + (l[i].toNat : Int) > 9007199254740991) || decide (v * 256 + (l[i].toNat : Int) < -9007199254740992)) = true from by simpa using ho]
        exact W.ret hm
      · rw [if_neg ho] at hm
        rw [show (decide (v * 256 + (l[i].toNat : Int) > 9007199254740991) || decide (v * 256 + (l[i].toNat : Int) < -9007199254740992)) = false from by rw [Bool.eq_false_iff]; simpa using ho]
        exact W.ret ⟨⟨i + 1, rfl, by omega, by dsimp only; omega, by dsimp only; omega, hm⟩, by dsimp only; omega⟩
    · have : i = l.length := by simp at hge; omega
      subst this
      rw [List.drop_length] at hm
      exact W.ret hm
  · rintro (v | ⟨a, c⟩) ho
    · dsimp only at ho ⊢
      rw [ho, bitsF]
      by_cases hv : v < -9007199254740991
      · rw [if_pos hv, show decide (v < -9007199254740991) = true from by simpa using hv]; exact W.ret rfl
      · rw [if_neg hv, show decide (v < -9007199254740991) = false from by simpa using hv]; exact W.ret rfl
    · exact W.ret ho.symm

/-- a field's number -/
def readF : List UInt8 → Int × Int
  | [] => (0, 1)
  | b :: l => if l.length < 1 ∨ l.length > 11 then (0, 1) else if (b.toNat : Int) = 128 ∨ (b.toNat : Int) = 255 then bitsF (if (b.toNat : Int) = 255 then -1 else 0) l else mach 0 0 false (b :: l)
theorem read_eq (h : AHeap) (l : List UInt8) : M_octal_Read h l = some (readF l) := by
  unfold M_octal_Read M_octal_may
  cases l with
  | nil => rfl
  | cons b l =>
    simp only [Option.bind_some, List.length_cons]
    rw [readF]
    by_cases hn : l.length < 1 ∨ l.length > 11
    · rw [if_pos hn, show (decide (((l.length + 1 : Nat) : Int) ≥ 2) && decide (((l.length + 1 : Nat) : Int) ≤ 12)) = false from by rw [Bool.eq_false_iff]; simp; omega]
      rfl
    · rw [if_neg hn, show (decide (((l.length + 1 : Nat) : Int) ≥ 2) && decide (((l.length + 1 : Nat) : Int) ≤ 12)) = true from by simp; omega]
      have e0 : ixS (b :: l) 0 = some (b.toNat : Int) := ixS_nat (i := 0) rfl
      rw [e0, bits_eq h b l (by omega), digits_eq h (b :: l) (by simp; omega)]
      simp only [Bool.not_true, iteB_false, Option.bind_some]
      have e1 : iteB ((b.toNat : Int) == 128) (some true) (some ((b.toNat : Int) == 255)) = some (decide ((b.toNat : Int) = 128 ∨ (b.toNat : Int) = 255)) := by
        rw [iteB_beq]
        split
        · rename_i hz; simp [hz]
        · rename_i hz; simp [hz]; rfl
      rw [e1]
      simp only [Option.bind_some]
      by_cases hz : (b.toNat : Int) = 128 ∨ (b.toNat : Int) = 255
      · rw [if_pos hz]; simp [hz]
      · rw [if_neg hz]; simp [hz]

/-! ### the document -/
def addF (v base d : Int) : Int := if v > 9007199254740991 then v else v * base + d
theorem add_eq (h : AHeap) {v base d : Int} (hv : 0 ≤ v) (hb : 0 ≤ base ∧ base ≤ 256) (hd : 0 ≤ d ∧ d ≤ 255) : M_boulterref01_add h v base d = some (addF v base d) := by
  unfold M_boulterref01_add addF
  rw [iteB_dec]
  split
  · rfl
  · have h1 : 0 ≤ v * base := Int.mul_nonneg hv hb.1
    have h2 : v * base ≤ 9007199254740991 * 256 := by
      have e1 : v * base ≤ v * 256 := Int.mul_le_mul_of_nonneg_left hb.2 hv
      omega
    rw [w64 (x := v * base) (by omega) (by omega), w64 (by omega) (by omega)]
theorem addF_nonneg {v base d : Int} (hv : 0 ≤ v) (hb : 0 ≤ base) (hd : 0 ≤ d) : 0 ≤ addF v base d := by
  unfold addF
  split
  · exact hv
  · have h1 : 0 ≤ v * base := Int.mul_nonneg hv hb
    omega
def satB : Int → List UInt8 → Int
  | v, [] => v
  | v, b :: l => satB (addF v 256 b.toNat) l
def satN : Int → List UInt8 → Int
  | v, [] => v
  | v, b :: l => satN (addF v 256 (255 - b.toNat)) l
def finR (v : Int) : Int × Int := if v > 9007199254740991 then (0, 6) else (v, 0)
def refRest (v : Int) : List UInt8 → Int × Int
  | [] => finR v
  | b :: l => if (b.toNat : Int) = 32 ∨ (b.toNat : Int) = 0 then refRest v l else (0, 2)
def refDig : Int → List UInt8 → Int × Int
  | v, [] => refRest v []
  | v, b :: l => if 48 ≤ (b.toNat : Int) ∧ (b.toNat : Int) ≤ 55 then refDig (addF v 8 (b.toNat - 48)) l else refRest v (b :: l)
def refSkip : List UInt8 → Int × Int
  | [] => refDig 0 []
  | b :: l => if (b.toNat : Int) = 32 then refSkip l else refDig 0 (b :: l)
def refF : List UInt8 → Int × Int
  | [] => (0, 1)
  | b :: l => if l.length < 1 ∨ l.length > 11 then (0, 1)
    else if (b.toNat : Int) = 128 then finR (satB 0 l)
    else if (b.toNat : Int) = 255 then (if satN 0 l + 1 > 9007199254740991 then (0, 6) else (-satN 0 l - 1, 0))
    else refSkip (b :: l)

theorem sat_loop {F : Int → List UInt8 → Int} {l : List UInt8} {b0 : UInt8} {step : Int × Int → Option ((Int × Int) ⊕ Int)} (hl : l.length ≤ 1000) (d : UInt8 → Int) (hd : ∀ b, 0 ≤ d b ∧ d b ≤ 255) (hF0 : ∀ v, F v [] = v) (hF : ∀ v b l, F v (b :: l) = F (addF v 256 (d b)) l)
    (hs : ∀ (v : Int) (i : Nat), 0 ≤ v → i ≤ l.length → step (v, ((i + 1 : Nat) : Int)) = if h : i < l.length then some (.inl (addF v 256 (d l[i]), ((i + 2 : Nat) : Int))) else some (.inr v)) : loop step (0, 1) = some (F 0 l) := by
  refine W.eq (W.loop (fun s => ∃ i : Nat, s.2 = ((i + 1 : Nat) : Int) ∧ i ≤ l.length ∧ 0 ≤ s.1 ∧ F 0 l = F s.1 (l.drop i)) (fun s => l.length + 1 - s.2.toNat) ⟨0, rfl, by omega, by simp, by simp⟩ ?_)
  rintro ⟨v, _⟩ ⟨i, rfl, hi, hv, hm⟩
  dsimp only at hv hm
  rw [hs v i hv hi]
  split
  · rename_i hlt
    rw [drop_cons hlt, hF] at hm
    exact W.ret ⟨⟨i + 1, rfl, by omega, addF_nonneg hv (by omega) (hd _).1, hm⟩, by dsimp only; omega⟩
  · have : i = l.length := by omega
    subst this
    rw [List.drop_length, hF0] at hm
    exact W.ret hm.symm
theorem satB_loop (h : AHeap) (b : UInt8) (l : List UInt8) (hl : l.length ≤ 1000) : loop (M_boulterref01_Read_L0 h (b :: l)) (0, 1) = some (satB 0 l) := by
  refine sat_loop (b0 := b) hl (fun b => b.toNat) byte_lt (fun _ => rfl) (fun _ _ _ => rfl) ?_
  intro v i hv hi
  unfold M_boulterref01_Read_L0
  dsimp only
  rw [iteB_dec]
  split
  · rename_i hlt
    have hlt : i < l.length := by simp at hlt; omega
    have hb := byte_lt l[i]
    rw [dif_pos hlt, ixS_nat (i := i + 1) (b := l[i]) (by simp [hlt])]
    simp only [Option.bind_some]
    rw [w64 (x := (l[i].toNat : Int)) (by omega) (by omega), add_eq h hv (by omega) (by omega), ek64 (by omega)]
    rfl
  · rename_i hge
    rw [dif_neg (by simp at hge; omega)]
theorem satN_loop (h : AHeap) (b : UInt8) (l : List UInt8) (hl : l.length ≤ 1000) : loop (M_boulterref01_Read_L1 h (b :: l)) (0, 1) = some (satN 0 l) := by
  refine sat_loop (b0 := b) hl (fun b => 255 - b.toNat) (fun b => by have := byte_lt b; omega) (fun _ => rfl) (fun _ _ _ => rfl) ?_
  intro v i hv hi
  unfold M_boulterref01_Read_L1
  dsimp only
  rw [iteB_dec]
  split
  · rename_i hlt
    have hlt : i < l.length := by simp at hlt; omega
    have hb := byte_lt l[i]
    rw [dif_pos hlt, ixS_nat (i := i + 1) (b := l[i]) (by simp [hlt])]
    simp only [Option.bind_some]
    rw [w64 (x := (l[i].toNat : Int)) (by omega) (by omega), w64 (by omega) (by omega), add_eq h hv (by omega) (by omega), ek64 (by omega)]
    rfl
  · rename_i hge
    rw [dif_neg (by simp at hge; omega)]
theorem skip_loop (l : List UInt8) (hl : l.length ≤ 1000) : W (loop (M_boulterref01_Read_L2 l) 0) fun s => ∃ i : Nat, s = i ∧ i ≤ l.length ∧ refSkip l = refDig 0 (l.drop i) := by
  refine W.loop (fun s => ∃ i : Nat, s = i ∧ i ≤ l.length ∧ refSkip l = refSkip (l.drop i)) (fun s => l.length - s.toNat) ⟨0, rfl, by omega, by simp⟩ ?_
  rintro _ ⟨i, rfl, hi, hm⟩
  unfold M_boulterref01_Read_L2
  dsimp only
  rw [iteB_dec]
  split
  · rename_i hlt
    have hlt : i < l.length := by omega
    rw [ixS_nat (List.getElem?_eq_getElem hlt)]
    simp only [Option.bind_some]
    rw [drop_cons hlt, refSkip] at hm
    rw [iteB_beq]
    split
    · rename_i hb
      rw [if_pos hb] at hm
      rw [ek64 (by omega)]
      exact W.ret ⟨⟨i + 1, rfl, by omega, hm⟩, by omega⟩
    · rename_i hb
      rw [if_neg hb, ← drop_cons hlt] at hm
      exact W.ret ⟨i, rfl, hi, hm⟩
  · have : i = l.length := by omega
    subst this
    rw [List.drop_length] at hm
    exact W.ret ⟨_, rfl, hi, by rw [List.drop_length]; exact hm⟩
theorem dig_loop (h : AHeap) (l : List UInt8) (hl : l.length ≤ 1000) {i0 : Nat} (h0 : i0 ≤ l.length) : W (loop (M_boulterref01_Read_L3 h l) ((i0 : Int), 0)) fun s => ∃ i : Nat, s.1 = i ∧ i ≤ l.length ∧ refDig 0 (l.drop i0) = refRest s.2 (l.drop i) := by
  refine W.loop (fun s => ∃ i : Nat, s.1 = i ∧ i ≤ l.length ∧ 0 ≤ s.2 ∧ refDig 0 (l.drop i0) = refDig s.2 (l.drop i)) (fun s => l.length - s.1.toNat) ⟨i0, rfl, by omega, by simp, rfl⟩ ?_
  rintro ⟨_, v⟩ ⟨i, rfl, hi, hv, hm⟩
  dsimp only at hv hm
  unfold M_boulterref01_Read_L3
  dsimp only
  rw [iteB_dec]
  split
  · rename_i hlt
    have hlt : i < l.length := by omega
    have hb := byte_lt l[i]
    rw [ixS_nat (List.getElem?_eq_getElem hlt)]
    simp only [Option.bind_some]
    rw [drop_cons hlt, refDig] at hm
    have e1 : iteB (decide ((l[i].toNat : Int) ≥ 48)) (some (decide ((l[i].toNat : Int) ≤ 55))) (some false) = some (decide (48 ≤ (l[i].toNat : Int) ∧ (l[i].toNat : Int) ≤ 55)) := by
      rw [iteB_dec]
      split
      · rename_i hz
        have hz : (48 : Int) ≤ l[i].toNat := hz
        simp [hz]
      · rename_i hz
        have hz : ¬ (48 : Int) ≤ l[i].toNat := hz
        simp [hz]
    rw [e1]
    simp only [Option.bind_some]
    rw [iteB_dec]
    split
    · rename_i hz
      rw [if_pos hz] at hm
      rw [w64 (x := (l[i].toNat : Int)) (by omega) (by omega), w64 (by omega) (by omega), add_eq h hv (by omega) (by omega), ek64 (by omega)]
      simp only [Option.bind_some]
      exact W.ret ⟨⟨i + 1, rfl, by omega, addF_nonneg hv (by omega) (by omega), hm⟩, by dsimp only; omega⟩
    · rename_i hz
      rw [if_neg hz, ← drop_cons hlt] at hm
      exact W.ret ⟨i, rfl, hi, hm⟩
  · have : i = l.length := by omega
    subst this
    rw [List.drop_length] at hm
    exact W.ret ⟨_, rfl, hi, by rw [List.drop_length]; exact hm⟩
theorem rest_loop (l : List UInt8) (hl : l.length ≤ 1000) (v : Int) {i0 : Nat} (h0 : i0 ≤ l.length) : W (loop (M_boulterref01_Read_L4 l) (i0 : Int)) fun o => match o with | .inl _ => refRest v (l.drop i0) = finR v | .inr (a, b) => refRest v (l.drop i0) = (a, b) := by
  refine W.loop (fun s => ∃ i : Nat, s = i ∧ i ≤ l.length ∧ refRest v (l.drop i0) = refRest v (l.drop i)) (fun s => l.length - s.toNat) ⟨i0, rfl, by omega, rfl⟩ ?_
  rintro _ ⟨i, rfl, hi, hm⟩
  unfold M_boulterref01_Read_L4
  dsimp only
  rw [iteB_dec]
  split
  · rename_i hlt
    have hlt : i < l.length := by omega
    rw [ixS_nat (List.getElem?_eq_getElem hlt)]
    simp only [Option.bind_some]
    rw [drop_cons hlt, refRest] at hm
    rw [iteB_bne]
    split
    · rename_i hz
      rw [if_pos (.inl hz)] at hm
      simp only [Option.bind_some, iteB_false]
      rw [ek64 (by omega)]
      exact W.ret ⟨⟨i + 1, rfl, by omega, hm⟩, by omega⟩
    · rename_i hz
      simp only [Option.bind_some]
      rw [iteB_bne]
      split
      · rename_i hy
        rw [if_pos (.inr hy)] at hm
        rw [ek64 (by omega)]
        exact W.ret ⟨⟨i + 1, rfl, by omega, hm⟩, by omega⟩
      · rename_i hy
        rw [if_neg (by omega)] at hm
        exact W.ret hm
  · have : i = l.length := by omega
    subst this
    rw [List.drop_length] at hm
    exact W.ret hm
theorem addF_le {v base d : Int} (hv : v ≤ 2305843009213693951) (hb : 0 ≤ base ∧ base ≤ 256) (hd : d ≤ 255) (hv0 : 0 ≤ v) : addF v base d ≤ 2305843009213693951 := by
  unfold addF
  split
  · exact hv
  · have e1 : v * base ≤ v * 256 := Int.mul_le_mul_of_nonneg_left hb.2 hv0
    omega
theorem satN_le : ∀ (l : List UInt8) (v : Int), 0 ≤ v → v ≤ 2305843009213693951 → 0 ≤ satN v l ∧ satN v l ≤ 2305843009213693951
  | [], v, h0, h1 => ⟨h0, h1⟩
  | b :: l, v, h0, h1 => satN_le l _ (addF_nonneg h0 (by omega) (by have := byte_lt b; omega)) (addF_le h1 (by omega) (by have := byte_lt b; omega) h0)
theorem ref_eq (h : AHeap) (l : List UInt8) : M_boulterref01_Read h l = some (refF l) := by
  unfold M_boulterref01_Read
  cases l with
  | nil => rfl
  | cons b l =>
    rw [refF]
    by_cases hn : l.length < 1 ∨ l.length > 11
    · rw [if_pos hn, show (decide (((b :: l).length : Int) < 2) || decide (((b :: l).length : Int) > 12)) = true from by simp; omega]
      rfl
    · have hbl : (b :: l).length ≤ 1000 := by simp; omega
      rw [if_neg hn, show (decide (((b :: l).length : Int) < 2) || decide (((b :: l).length : Int) > 12)) = false from by rw [Bool.eq_false_iff]; simp; omega]
      have e0 : ixS (b :: l) 0 = some (b.toNat : Int) := ixS_nat (i := 0) rfl
      rw [e0, satB_loop h b l (by omega), satN_loop h b l (by omega)]
      simp only [iteB_false, Option.bind_some]
      rw [iteB_beq]
      split
      · rw [iteB_dec, finR]
        split <;> rfl
      · rw [iteB_beq]
        split
        · have := satN_le l 0 (by omega) (by omega)
          rw [w64 (x := satN 0 l + 1) (by omega) (by omega), w64 (x := 0 - satN 0 l) (by omega) (by omega), w64 (by omega) (by omega), iteB_dec]
          split
          · rfl
          · rw [Int.zero_sub]
        · refine W.eq (W.bind (W.mono (skip_loop (b :: l) hbl) ?_))
          rintro _ ⟨i, rfl, hi, hm⟩
          refine W.bind (W.mono (dig_loop h (b :: l) hbl hi) ?_)
          rintro ⟨_, v⟩ ⟨j, rfl, hj, hm2⟩
          dsimp only at hm2 ⊢
          refine W.bind (W.mono (rest_loop (b :: l) hbl v hj) ?_)
          rintro (_ | ⟨a, c⟩) hm3
          · dsimp only at hm3 ⊢
            rw [hm, hm2, hm3, finR, iteB_dec]
            split <;> exact W.ret rfl
          · dsimp only at hm3 ⊢
            rw [hm, hm2, hm3]
            exact W.ret rfl

/-! ### both tell the same -/
def Ov (v : Int) (over : Bool) (w : Int) : Prop := (over = false ∧ w = v ∧ v ≤ 9007199254740991) ∨ (over = true ∧ w > 9007199254740991)
theorem fin_Ov {v w : Int} {over : Bool} (h : Ov v over w) : fin v over = finR w := by
  unfold fin finR
  rcases h with ⟨rfl, rfl, h⟩ | ⟨rfl, h⟩
  · rw [if_neg (by simp), if_neg (by omega)]
  · rw [if_pos rfl, if_pos h]
theorem mach2 {v w : Int} {over : Bool} (h : Ov v over w) : ∀ l, mach 2 v over l = refRest w l
  | [] => fin_Ov h
  | b :: l => by
    rw [mach, refRest, if_neg (by omega), if_neg (by omega), mach2 h l]
theorem mach1 : ∀ (l : List UInt8) {v w : Int} {over : Bool}, Ov v over w → 0 ≤ v → mach 1 v over l = refDig w l
  | [], v, w, over, h, _ => fin_Ov h
  | b :: l, v, w, over, h, hv => by
    rw [mach, refDig]
    by_cases hd : 48 ≤ (b.toNat : Int) ∧ (b.toNat : Int) ≤ 55
    · rw [if_pos ⟨hd.1, hd.2, by omega⟩, if_pos hd]
      by_cases ho : v * 8 + ((b.toNat : Int) - 48) > 9007199254740991
      · rw [if_pos ho]
        refine mach1 l (.inr ⟨rfl, ?_⟩) (by omega)
        unfold addF
        rcases h with ⟨h1, rfl, h2⟩ | ⟨h1, h2⟩
        · rw [if_neg (by omega)]; exact ho
        · rw [if_pos h2]; exact h2
      · rw [if_neg ho]
        refine mach1 l ?_ (by omega)
        unfold addF
        rcases h with ⟨h1, rfl, h2⟩ | ⟨h1, h2⟩
        · rw [if_neg (by omega)]; exact .inl ⟨h1, rfl, by omega⟩
        · rw [if_pos h2]; exact .inr ⟨h1, h2⟩
    · rw [if_neg (by omega), if_neg (by omega), if_neg hd, refRest, mach2 h l]
theorem mach0 : ∀ l, mach 0 0 false l = refSkip l
  | [] => rfl
  | b :: l => by
    have h0 : Ov 0 false 0 := .inl ⟨rfl, rfl, by omega⟩
    rw [refSkip]
    by_cases hs : (b.toNat : Int) = 32
    · rw [if_pos hs, mach, if_neg (by omega), if_pos ⟨hs, rfl⟩, mach0 l]
    · rw [if_neg hs, ← mach1 (b :: l) h0 (by omega), mach, mach]
      by_cases hd : 48 ≤ (b.toNat : Int) ∧ (b.toNat : Int) ≤ 55
      · simp [hd]
      · simp [hd, hs]
theorem satB_gt : ∀ (l : List UInt8) {v : Int}, v > 9007199254740991 → satB v l > 9007199254740991
  | [], _, h => h
  | b :: l, v, h => by rw [satB, addF, if_pos h]; exact satB_gt l h
theorem satN_gt : ∀ (l : List UInt8) {v : Int}, v > 9007199254740991 → satN v l > 9007199254740991
  | [], _, h => h
  | b :: l, v, h => by rw [satN, addF, if_pos h]; exact satN_gt l h
theorem bits_pos : ∀ (l : List UInt8) {v : Int}, 0 ≤ v → v ≤ 9007199254740991 → bitsF v l = finR (satB v l)
  | [], v, h0, h1 => by rw [bitsF, satB, finR, if_neg (by omega), if_neg (by omega)]
  | b :: l, v, h0, h1 => by
    have hb := byte_lt b
    rw [bitsF, satB, addF, if_neg (show ¬ v > 9007199254740991 by omega)]
    by_cases ho : v * 256 + (b.toNat : Int) > 9007199254740991
    · rw [if_pos (.inl ho), finR, if_pos (satB_gt l ho)]
    · rw [if_neg (by omega)]
      exact bits_pos l (by omega) (by omega)
theorem bits_neg : ∀ (l : List UInt8) {w : Int}, 0 ≤ w → w ≤ 9007199254740991 → bitsF (-1 - w) l = if satN w l + 1 > 9007199254740991 then (0, 6) else (-satN w l - 1, 0)
  | [], w, h0, h1 => by
    rw [bitsF, satN]
    by_cases h : w + 1 > 9007199254740991
    · rw [if_pos h, if_pos (by omega)]
    · rw [if_neg h, if_neg (by omega)]
      congr 1
      omega
  | b :: l, w, h0, h1 => by
    have hb := byte_lt b
    rw [bitsF, satN, addF, if_neg (show ¬ w > 9007199254740991 by omega)]
    have e : (-1 - w) * 256 + (b.toNat : Int) = -1 - (w * 256 + (255 - b.toNat)) := by omega
    rw [e]
    by_cases ho : w * 256 + (255 - (b.toNat : Int)) > 9007199254740991
    · have := satN_gt l ho
      rw [if_pos (by omega), if_pos (by omega)]
    · rw [if_neg (by omega)]
      exact bits_neg l (by omega) (by omega)
theorem read_ref : ∀ l, readF l = refF l
  | [] => rfl
  | b :: l => by
    rw [readF, refF]
    split
    · rfl
    · by_cases h1 : (b.toNat : Int) = 128
      · rw [if_pos (.inl h1), if_pos h1, if_neg (by omega), bits_pos l (by omega) (by omega)]
      · rw [if_neg h1]
        by_cases h2 : (b.toNat : Int) = 255
        · rw [if_pos (.inr h2), if_pos h2, if_pos h2]
          exact bits_neg l (w := 0) (by omega) (by omega)
        · rw [if_neg (by omega), if_neg h2, mach0]
end Go.Abs.L
