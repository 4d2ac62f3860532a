/-
  OCCUR: what pickers do.
-/
import Derived.Test.YtimjggadeingjaaLoccur
import Derived.Test.YtimjggadeingjaaAbsKit
namespace Go.Abs.L
open Go.Abs
set_option linter.unusedVariables false
set_option linter.unusedSimpArgs false

/-- a picker's cells -/
def pk (n rows : Int) (cnt : List Int) : List AVal := .int .i64 n :: .int .i64 rows :: cnt.map (.int .i64 ·)
def Pick (h : AHeap) (id : Nat) (n rows : Int) (cnt : List Int) : Prop := h.get id = some (.cells none 2 (pk n rows cnt)) ∧ cnt.length = 257
theorem pk_get {n rows : Int} {cnt : List Int} {i : Nat} : (pk n rows cnt)[2 + i]? = (cnt[i]?).map (.int .i64 ·) := by
  unfold pk; rw [Nat.add_comm]; simp

/-- counts of 0 -/
def zer : List Int := List.replicate 257 0
theorem zer_length : zer.length = 257 := List.length_replicate
theorem zer_mem {c : Int} (h : c ∈ zer) : c = 0 := List.eq_of_mem_replicate h
theorem zer_take {n : Nat} (h : n ≤ 257) : zer.take n = List.replicate n 0 := by
  unfold zer; rw [List.take_replicate, Nat.min_eq_left h]
theorem splice2 (z a b : AVal) (k : Nat) : splice (splice (List.replicate (k + 2) z) 0 [a]) 1 [b] = a :: b :: List.replicate k z := by
  simp [splice, List.replicate_succ]

theorem new_ok {g : Gd} {h : AHeap} {n rows : Int} (hn : 0 ≤ n ∧ n ≤ 9007199254740991) (hr : 1 ≤ rows ∧ rows ≤ 257) :
    M_occur_New g h n rows = some ((some (h.size, 0), 0), h.push (.cells none 2 (pk n rows zer))) := by
  unfold M_occur_New
  have e : (((decide (n < 0) || decide (n > 9007199254740991)) || decide (rows < 1)) || decide (rows > 257)) = false := by simp; omega
  rw [e, show zc 45 = List.replicate 259 (.int .i64 0) from by kernel_rfl]
  simp only [iteB_false, Option.bind_some, Option.some.injEq, Prod.mk.injEq, true_and]
  have e2 : splice (splice (List.replicate 259 (AVal.int .i64 0)) 0 [.int .i64 n]) 1 [.int .i64 rows] = pk n rows zer := by
    have := splice2 (AVal.int .i64 0) (.int .i64 n) (.int .i64 rows) 257
    rw [this, pk, zer, List.map_replicate]
  rw [e2]
theorem new_bad {g : Gd} {h : AHeap} {n rows : Int} (hn : n < 0 ∨ n > 9007199254740991 ∨ rows < 1 ∨ rows > 257) : M_occur_New g h n rows = some ((none, 6), h) := by
  unfold M_occur_New
  have e : (((decide (n < 0) || decide (n > 9007199254740991)) || decide (rows < 1)) || decide (rows > 257)) = true := by simp; omega
  rw [e]
  rfl

section
variable {g : Gd} {h : AHeap} {id : Nat} {n rows : Int} {cnt : List Int}
theorem Pick.n_ (p : Pick h id n rows cnt) : ldI h (id, 0 + 0) .i64 = some n := ldI_of p.1 (by simp) rfl
theorem Pick.rows_ (p : Pick h id n rows cnt) : ldI h (id, 0 + 1) .i64 = some rows := ldI_of p.1 (by simp) rfl
theorem Pick.cnt_ (p : Pick h id n rows cnt) {i : Nat} {c : Int} (hc : cnt[i]? = some c) : ldI h (id, 0 + 2 + i * 1) .i64 = some c := by
  refine ldI_of p.1 (by simp) ?_
  have := pk_get (n := n) (rows := rows) (cnt := cnt) (i := i)
  rw [Nat.mul_one, Nat.zero_add, this, hc]; rfl
theorem is_spec (p : Pick h id n rows cnt) (row : Int) : M_occur_Picker_is h (some (id, 0)) row = some (decide (0 ≤ row ∧ row < rows)) := by
  unfold M_occur_Picker_is
  simp only [iteB_dec, Option.bind_some, p.rows_]
  by_cases h1 : row ≥ 0
  · simp [h1]
  · simp [h1]
theorem count_spec (p : Pick h id n rows cnt) {row : Nat} (hr : (row : Int) < rows) (hle : rows ≤ 257) : M_occur_Picker_Count h (some (id, 0)) row = some (cnt.getD row 0) := by
  unfold M_occur_Picker_Count
  have hl : row < cnt.length := by have := p.2; omega
  have hg : cnt[row]? = some cnt[row] := List.getElem?_eq_getElem hl
  rw [is_spec p]
  simp only [Option.bind_some, show ((0 : Int) ≤ (row : Int) ∧ (row : Int) < rows) = True from by simp [hr], decide_true, Bool.not_true, iteB_false, ixA_nat (show row < 257 by have := p.2; omega)]
  rw [p.cnt_ hg]
  simp [List.getD_eq_getElem?_getD, hg]
theorem count_none (p : Pick h id n rows cnt) {row : Int} (hr : ¬ (0 ≤ row ∧ row < rows)) : M_occur_Picker_Count h (some (id, 0)) row = some 0 := by
  unfold M_occur_Picker_Count
  rw [is_spec p]
  simp [hr]
theorem take_none (p : Pick h id n rows cnt) {row : Int} (hr : ¬ (0 ≤ row ∧ row < rows)) : M_occur_Picker_Take g h (some (id, 0)) row = some ((false, 9), h) := by
  unfold M_occur_Picker_Take
  rw [is_spec p]
  simp [hr]
/-- counts with one more -/
def bump (cnt : List Int) (row : Nat) : List Int := if cnt.getD row 0 < 9007199254740991 then cnt.set row (cnt.getD row 0 + 1) else cnt
theorem bump_length (cnt : List Int) (row : Nat) : (bump cnt row).length = cnt.length := by unfold bump; split <;> simp
theorem take_spec (p : Pick h id n rows cnt) (hm : g.may id = true) {row : Nat} (hr : (row : Int) < rows) (hle : rows ≤ 257) (h0 : 0 ≤ cnt.getD row 0) :
    ∃ h', M_occur_Picker_Take g h (some (id, 0)) row = some ((decide (n = 0) || decide ((bump cnt row).getD row 0 = n), 0), h') ∧ Pick h' id n rows (bump cnt row) ∧ Only (some id) h h' ∧ h'.size = h.size := by
  have hl : row < cnt.length := by have := p.2; omega
  have h257 : row < 257 := by have := p.2; omega
  have hg : cnt[row]? = some cnt[row] := List.getElem?_eq_getElem hl
  have hgd : cnt.getD row 0 = cnt[row] := by simp [List.getD_eq_getElem?_getD, hg]
  have hl' : row < (bump cnt row).length := by rw [bump_length]; exact hl
  have hg' : (bump cnt row)[row]? = some (bump cnt row)[row] := List.getElem?_eq_getElem hl'
  have hgd' : (bump cnt row).getD row 0 = (bump cnt row)[row] := by simp [List.getD_eq_getElem?_getD, hg']
  have key : ∀ (c : Int) (h' : AHeap), ((iteB (n == 0) (some true) (some (c == n))).bind fun x5 => some ((x5, (0 : Int)), h')) = some ((decide (n = 0) || decide (c = n), 0), h') := by
    intro c h'
    by_cases hn : n = 0
    · simp [hn]
    · have : (n == 0) = false := by simpa using hn
      simp [this, hn]
      rfl
  rw [hgd']
  unfold M_occur_Picker_Take
  rw [is_spec p]
  simp only [Option.bind_some, show ((0 : Int) ≤ (row : Int) ∧ (row : Int) < rows) = True from by simp [hr], decide_true, Bool.not_true, iteB_false, ixA_nat h257]
  simp only [p.cnt_ hg, Option.bind_some]
  by_cases hlt : cnt[row] < 9007199254740991
  · rw [show decide (cnt[row] < 9007199254740991) = true from by simpa using hlt]
    simp only [iteB_true]
    have hb : bump cnt row = cnt.set row (cnt[row] + 1) := by unfold bump; rw [hgd, if_pos hlt]
    have hst := st_of (g := g) (o := 0 + 2 + row * 1) p.1 hm (new := [.int .i64 (IntKind.i64.wrap (cnt[row] + 1))]) (by simp [pk]; omega) rfl
    rw [hst]
    simp only [Option.bind_some]
    have hpk : splice (pk n rows cnt) (0 + 2 + row * 1) [.int .i64 (IntKind.i64.wrap (cnt[row] + 1))] = pk n rows (bump cnt row) := by
      rw [splice_one (by simp [pk]; omega), w64 (by omega) (by omega), hb, Nat.mul_one, Nat.zero_add, Nat.add_comm]
      simp [pk, List.map_set]
    rw [hpk]
    have p' : Pick (h.set id (.cells none 2 (pk n rows (bump cnt row)))) id n rows (bump cnt row) := ⟨h.get_set_same _ (h.lt_of_get p.1), by rw [bump_length]; exact p.2⟩
    refine ⟨_, ?_, p', Only.set p.1, rfl⟩
    simp only [p'.n_, p'.cnt_ hg', Option.bind_some]
    exact key _ _
  · rw [show decide (cnt[row] < 9007199254740991) = false from by simpa using hlt]
    simp only [iteB_false, Option.bind_some]
    have hb : bump cnt row = cnt := by unfold bump; rw [hgd, if_neg hlt]
    have p' : Pick h id n rows (bump cnt row) := by rw [hb]; exact p
    refine ⟨_, ?_, p', Only.refl _ _, rfl⟩
    simp only [p'.n_, p'.cnt_ hg', Option.bind_some]
    exact key _ _
end
end Go.Abs.L
