/-
  Delta: DeltaUpdates.
-/
import Derived.Test.YtcmfogjpkkodbaaDeUpd
import Derived.Test.YtcmfogjpkkodbaaDeOf
namespace Go.Av.L
open Go.Av Go.Lib
set_option linter.unusedVariables false
set_option linter.unusedSimpArgs false

theorem hasN_app (a b : List Mb) (n : Str) : hasN (a ++ b) n = (hasN a n || hasN b n) := List.any_append
/-- names that the second one has, too, count there alone -/
theorem lastL_app : ∀ a b : List Mb, lastL (a ++ b) = (lastL a).filter (fun x => !hasN b x.Name) ++ lastL b
  | [], b => by simp [lastL]
  | x :: a, b => by
    have e1 : lastL ((x :: a) ++ b) = bif hasN (a ++ b) x.Name then lastL (a ++ b) else x :: lastL (a ++ b) := rfl
    have e2 : lastL (x :: a) = bif hasN a x.Name then lastL a else x :: lastL a := rfl
    rw [e1, e2, hasN_app, lastL_app a b]
    cases h1 : hasN a x.Name <;> cases h2 : hasN b x.Name <;> simp [h2]
theorem lastOf_app (a b : List Mb) (n : Str) : lastOf (a ++ b) n = match lastOf b n with | some y => some y | none => lastOf a n := by
  induction a with
  | nil => rw [List.nil_append]; cases lastOf b n <;> rfl
  | cons x a ih =>
    rw [List.cons_append, lastOf, ih]
    cases h : lastOf b n with
    | some y => rfl
    | none => rw [lastOf]
theorem update_self (a : List Mb) : lastL (a ++ a) = lastL a := by
  rw [lastL_app, List.filter_eq_nil_iff.2 (fun x hx => ?_), List.nil_append]
  have : hasN a x.Name = true := List.any_eq_true.2 ⟨x, lastL_mem hx, by simp⟩
  simp [this]
theorem newer_self (a : List Mb) : (lastL a).filter (newN a) = [] := by
  rw [List.filter_eq_nil_iff]
  intro x hx
  unfold newN
  rw [mem_lastL.1 hx]
  simp [earlier]
theorem addS_upd (a b : List Mb) : addS (lastL (a ++ b)) b = [] := by
  unfold addS
  rw [List.filter_eq_nil_iff]
  intro n hn
  rw [hasN_lastL, hasN_app, mem_KB.1 hn]
  simp
theorem chgS_upd (a b : List Mb) : chgS (lastL (a ++ b)) b = [] := by
  unfold chgS
  rw [List.filter_eq_nil_iff]
  intro n hn
  obtain ⟨y, hy⟩ := lastOf_some (mem_KB.1 hn)
  have : diffN (lastL (a ++ b)) b n = false := by
    unfold diffN
    rw [lastOf_lastL, lastOf_app, hy]
    simp [sameB_iff.2 rfl]
  simp [this]
theorem lawDeltaUpdates (a : List Mb) {P : Prop} (_ : P) (b : List Mb) {Q : Prop} (_ : Q) : M_boulterlaw38_DeltaUpdates a b = some true := by
  unfold M_boulterlaw38_DeltaUpdates
  obtain ⟨ra, e1, ia⟩ := long38 a
  obtain ⟨rb, e2, ib⟩ := long38 b
  rw [e1, Option.bind_some, e2]
  cases ra with
  | true => rfl
  | false =>
    cases rb with
    | true => rfl
    | false =>
      obtain ⟨ha, sa⟩ := ia rfl
      obtain ⟨hb, sb⟩ := ib rfl
      simp only [iteB_false, Option.bind_some, List.nil_append]
      have la := lastL_len a
      have l1 := lastL_len (a ++ b)
      rw [List.length_append] at l1
      have su : ∀ x ∈ lastL (a ++ b), Short x := fun x hx => by rcases List.mem_append.1 (lastL_mem hx) with h | h; exact sa x h; exact sb x h
      have same : ∀ l : List Mb, (∀ x ∈ l, Short x) → l.length ≤ 1000 → M_boulterref12_Same_sOO l l = some true := fun l hs hl => by
        obtain ⟨r, e, i⟩ := same12 l l (fun m hm => by have := (hs m hm).2; omega) (by omega)
        rw [e, i.2 rfl]
      rw [updateD a a (by omega) (by omega) sa sa, update_self, lastD a (by omega) sa, newerD a a ha ha sa sa, newer_self, List.append_nil, updateD a b (by omega) (by omega) sa sb]
      simp only [Option.bind_some]
      rw [same12_0, same _ (fun x hx => sa x (lastL_mem hx)) (by omega), ofD' _ b (by omega) (by omega) su sb, updateD _ b (by omega) (by omega) su sb]
      simp only [Option.bind_some, addS_upd, chgS_upd, List.length_nil]
      have l2 := lastL_len (lastL (a ++ b) ++ b)
      rw [List.length_append] at l2
      rw [lastD_0, lastD _ (by rw [List.length_append]; omega) (fun x hx => by rcases List.mem_append.1 hx with h | h; exact su x h; exact sb x h), okN_of (by simp; omega) (by simp; omega), okN_of (by omega) (by omega)]
      simp only [Option.bind_some, need_true, Bool.not_true, iteB_false, same12_0]
      rw [same _ (fun x hx => by rcases List.mem_append.1 (lastL_mem hx) with h | h; exact su x h; exact sb x h) (by omega)]
      rfl
end Go.Av.L
