/-
  Laws over models: '==' of structs; one turn of a loop.
-/
import Derived.Test.YtdpebdaplhfbjaaGreatDoorAvNum
import Derived.Test.YtdpebdaplhfbjaaGreatDoorAvMore
namespace Go.Av.L
open Go.Av
set_option linter.unusedVariables false
set_option linter.unusedSimpArgs false
def eqSmB (P : Program) : Nat → TypeId → AVal → AVal → Bool
 | 0, _, _, _ => false
 | d + 1, t, x, y =>
  match P.underlying t, x, y with
  | some .bool, .bool _, .bool _ => true
  | some (.int _), .int k _, .int k' _ => decide (k = k')
  | some .string, .str _, .str _ => true
  | some (.struct fs), .agg xs, .agg ys => !P.stoodInHeld t && fs.toList.all fun f => decide (f.name = "_") || (match partA P f.type xs f.offset, partA P f.type ys f.offset with | some a, some b => eqSmB P d f.type a b | _, _ => false)
  | some (.array n e), .agg xs, .agg ys => match szOf P e with | some z => (List.range n).all fun i => (match partA P e xs (i * z), partA P e ys (i * z) with | some a, some b => eqSmB P d e a b | _, _ => false) | none => false
  | _, _, _ => false
theorem eqFields_sm {P : Program} {eq : TypeId → AVal → AVal → Option Bool} {sm : TypeId → AVal → AVal → Bool} (h : ∀ t a b, sm t a b = true → ∃ v, eq t a b = some v) {xs ys : List AVal} : ∀ fs : List Field, (fs.all fun f => decide (f.name = "_") || (match partA P f.type xs f.offset, partA P f.type ys f.offset with | some a, some b => sm f.type a b | _, _ => false)) = true → ∃ v, eqFields P eq xs ys fs = some v
 | [], _ => ⟨true, rfl⟩
 | f :: fs, hs => by
  simp only [List.all_cons, Bool.and_eq_true] at hs
  obtain ⟨v, hv⟩ := eqFields_sm h fs hs.2
  unfold eqFields
  by_cases hn : f.name = "_"
  ·rw [if_pos hn]; exact ⟨v, hv⟩
  ·rw [if_neg hn]
   have h1 := hs.1
   simp only [hn, decide_false, Bool.false_or] at h1
   split at h1
   ·rename_i a b ha hb
    rw [ha, hb]
    obtain ⟨u, hu⟩ := h _ _ _ h1
    simp only [hu]
    cases u
    ·exact ⟨false, rfl⟩
    ·exact ⟨v, hv⟩
   ·cases h1
theorem eqElems_sm {P : Program} {eq : TypeId → AVal → AVal → Option Bool} {sm : TypeId → AVal → AVal → Bool} (h : ∀ t a b, sm t a b = true → ∃ v, eq t a b = some v) {e : TypeId} {z : Nat} {xs ys : List AVal} : ∀ n i : Nat, (∀ j, i ≤ j → j < i + n → (match partA P e xs (j * z), partA P e ys (j * z) with | some a, some b => sm e a b | _, _ => false) = true) → ∃ v, eqElems P eq e z xs ys n i = some v
 | 0, i, _ => ⟨true, rfl⟩
 | n + 1, i, hs => by
  obtain ⟨v, hv⟩ := eqElems_sm h (e := e) (z := z) (xs := xs) (ys := ys) n (i + 1) (fun j h1 h2 => hs j (by omega) (by omega))
  have h1 := hs i (Nat.le_refl _) (by omega)
  unfold eqElems
  split at h1
  ·rename_i a b ha hb
   rw [ha, hb]
   obtain ⟨u, hu⟩ := h _ _ _ h1
   simp only [hu]
   cases u
   ·exact ⟨false, rfl⟩
   ·exact ⟨v, hv⟩
  ·cases h1
theorem eqA_sm {P : Program} : ∀ (d : Nat) (t : TypeId) (x y : AVal), eqSmB P d t x y = true → ∃ v, eqA P d t x y = some v
 | 0, _, _, _, h => by cases h
 | d + 1, t, x, y, h => by
  have ih := eqA_sm (P := P) d
  unfold eqSmB at h
  split at h
  ·rename_i hu; unfold eqA; rw [hu]; exact ⟨_, rfl⟩
  ·rename_i hu; unfold eqA; rw [hu]; simp only [decide_eq_true_eq] at h; exact ⟨_, if_pos h⟩
  ·rename_i hu; unfold eqA; rw [hu]; exact ⟨_, rfl⟩
  ·rename_i hu
   simp only [Bool.and_eq_true, Bool.not_eq_true'] at h
   unfold eqA; rw [hu]
   simp only [h.1]
   exact eqFields_sm (sm := eqSmB P d) ih _ h.2
  ·rename_i hu
   split at h
   ·rename_i z hz
    unfold eqA; rw [hu]
    simp only [hz, Option.bind_some]
    refine eqElems_sm (sm := eqSmB P d) ih _ 0 fun j _ hj => ?_
    exact List.all_eq_true.1 h j (List.mem_range.2 (by omega))
   ·cases h
  ·cases h
theorem eqFields_self {P : Program} {eq : TypeId → AVal → AVal → Option Bool} {sm : TypeId → AVal → AVal → Bool} (h : ∀ t a, sm t a a = true → eq t a a = some true) {xs : List AVal} : ∀ fs : List Field, (fs.all fun f => decide (f.name = "_") || (match partA P f.type xs f.offset, partA P f.type xs f.offset with | some a, some b => sm f.type a b | _, _ => false)) = true → eqFields P eq xs xs fs = some true
 | [], _ => rfl
 | f :: fs, hs => by
  simp only [List.all_cons, Bool.and_eq_true] at hs
  have hv := eqFields_self h fs hs.2
  unfold eqFields
  by_cases hn : f.name = "_"
  ·rw [if_pos hn]; exact hv
  ·rw [if_neg hn]
   have h1 := hs.1
   simp only [hn, decide_false, Bool.false_or] at h1
   cases ha : partA P f.type xs f.offset with
   | none => rw [ha] at h1; cases h1
   | some a =>
    rw [ha] at h1
    simp only at h1 ⊢
    rw [h _ _ h1]
    exact hv
theorem eqElems_self {P : Program} {eq : TypeId → AVal → AVal → Option Bool} {sm : TypeId → AVal → AVal → Bool} (h : ∀ t a, sm t a a = true → eq t a a = some true) {e : TypeId} {z : Nat} {xs : List AVal} : ∀ n i : Nat, (∀ j, i ≤ j → j < i + n → (match partA P e xs (j * z), partA P e xs (j * z) with | some a, some b => sm e a b | _, _ => false) = true) → eqElems P eq e z xs xs n i = some true
 | 0, i, _ => rfl
 | n + 1, i, hs => by
  have hv := eqElems_self h (e := e) (z := z) (xs := xs) n (i + 1) (fun j h1 h2 => hs j (by omega) (by omega))
  have h1 := hs i (Nat.le_refl _) (by omega)
  unfold eqElems
  cases ha : partA P e xs (i * z) with
  | none => rw [ha] at h1; cases h1
  | some a =>
   rw [ha] at h1
   simp only at h1 ⊢
   rw [h _ _ h1]
   exact hv
theorem eqA_self {P : Program} : ∀ (d : Nat) (t : TypeId) (x : AVal), eqSmB P d t x x = true → eqA P d t x x = some true
 | 0, _, _, h => by cases h
 | d + 1, t, x, h => by
  have ih := eqA_self (P := P) d
  unfold eqSmB at h
  split at h
  ·rename_i hu hx; rename_i b c; unfold eqA; rw [hu]; cases hx; simp
  ·rename_i hu hx; unfold eqA; rw [hu]; cases hx; simp
  ·rename_i hu hx; unfold eqA; rw [hu]; cases hx; simp
  ·rename_i hu hx
   cases hx
   simp only [Bool.and_eq_true, Bool.not_eq_true'] at h
   unfold eqA; rw [hu]
   simp only [h.1]
   exact eqFields_self (sm := eqSmB P d) ih _ h.2
  ·rename_i hu hx
   cases hx
   split at h
   ·rename_i z hz
    unfold eqA; rw [hu]
    simp only [hz, Option.bind_some]
    refine eqElems_self (sm := eqSmB P d) ih _ 0 fun j _ hj => ?_
    exact List.all_eq_true.1 h j (List.mem_range.2 (by omega))
   ·cases h
  ·cases h
theorem eqG_self {P : Program} {t : TypeId} {xs : List AVal} (h : P.eqGuardType P.depth t = false) (h3 : eqSmB P 10000 t (.agg xs) (.agg xs) = true) : eqG P t xs xs = some true := by
 unfold eqG
 rw [if_neg (by rw [h]; decide)]
 exact eqA_self _ _ _ h3
end Go.Av.L
