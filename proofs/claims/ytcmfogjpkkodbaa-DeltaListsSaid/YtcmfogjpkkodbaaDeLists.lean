/-
  Delta: DeltaLists.
-/
import Derived.Test.YtcmfogjpkkodbaaDeUpd
import Derived.Test.YtcmfogjpkkodbaaDeR
import Derived.Test.YtcmfogjpkkodbaaDeSort
import Derived.Test.YtcmfogjpkkodbaaDeIns
namespace Go.Av.L
open Go.Av Go.Lib
set_option linter.unusedVariables false
set_option linter.unusedSimpArgs false

theorem last38_0 (l : List Mb) : M_boulterref38_Last_sO l = M_boulterref38_Last l := rfl
theorem insM_len (l : List Mb) (m : Mb) : (insM l m).length = l.length + 1 := by rw [(insM_perm m l).length_eq]; rfl
theorem sortedR (b : List Mb) (hb : b.length ≤ 100) : M_boulterref38_Sorted b = some (sortM (lastL b)) := by
  unfold M_boulterref38_Sorted
  have lb := lastL_len b
  rw [last38 b (by omega), Option.bind_some]
  have g := (loopL (l := lastL b) (step := M_boulterref38_Sorted_L0 (lastL b)) (enc := fun (s : List Mb) i => (s, (i : Int))) (fun s _ y => insM s y) (fun s i => s.length ≤ i) (fun s => s)
    (fun s _ => by unfold M_boulterref38_Sorted_L0; dsimp only; rw [iteB_dec, if_neg (by omega)])
    (fun s i hi hs => by
      refine ⟨?_, by rw [insM_len]; omega⟩
      unfold M_boulterref38_Sorted_L0; dsimp only
      rw [iteB_dec, if_pos (by omega), ixV_get hi, Option.bind_some, insert38 s _ (by omega), Option.bind_some, ek64 (by omega)]) [] (by simp)).1
  rw [show (([] : List Mb), (0 : Int)) = (([] : List Mb), ((0 : Nat) : Int)) from rfl, g, foldI_const]; rfl
theorem sortedD (a : List Mb) (ha : a.length ≤ 10) (sa : ∀ x ∈ a, Short x) : M_delta_Sorted a = some (sortM (lastL a)) := by
  unfold M_delta_Sorted
  have := lastL_len a
  rw [lastD a (by omega) sa, Option.bind_some, byName38 _ (by omega)]; rfl
theorem cmp04 (a b c d : Int) : ∃ r, M_boulterref04_Cmp a b c d = some r ∧ decide (r < 0) = earlier ⟨a, b⟩ ⟨c, d⟩ := by
  unfold M_boulterref04_Cmp earlier
  simp only [iteB_dec]
  by_cases h1 : a < c
  · rw [if_pos h1]; exact ⟨-1, rfl, by simp [h1]⟩
  · rw [if_neg h1]
    by_cases h2 : a > c
    · rw [if_pos h2]; exact ⟨1, rfl, by have : ¬ a = c := by omega
                                        simp [h1, this]⟩
    · rw [if_neg h2]
      have h3 : a = c := by omega
      subst h3
      by_cases h4 : b < d
      · rw [if_pos h4]; exact ⟨-1, rfl, by simp [h4]⟩
      · rw [if_neg h4]
        by_cases h5 : b > d
        · rw [if_pos h5]; exact ⟨1, rfl, by simp [h4]⟩
        · rw [if_neg h5]; exact ⟨0, rfl, by simp [h4]⟩
theorem newerR (a b : List Mb) (ha : a.length ≤ 10) (hb : b.length ≤ 10) : M_boulterref38_Newer a b = some (lastL (a ++ (lastL b).filter (newN a))) := by
  unfold M_boulterref38_Newer
  have lb := lastL_len b
  rw [okN_of (by simp; omega) (by simp; omega), need_true, last38 b (by omega), Option.bind_some, List.nil_append]
  have g := (loopL (l := lastL b) (step := M_boulterref38_Newer_L0 a (lastL b)) (enc := fun (s : List Mb) i => (s, (i : Int))) (fun s _ y => bif newN a y then s ++ [y] else s) (fun s i => s.length ≤ 10 + i) (fun s => s)
    (fun s _ => by unfold M_boulterref38_Newer_L0; dsimp only; rw [iteB_dec, if_neg (by omega)])
    (fun s i hi hs => by
      refine ⟨?_, by cases newN a (lastL b)[i] <;> simp <;> omega⟩
      unfold M_boulterref38_Newer_L0; dsimp only
      rw [iteB_dec, if_pos (by omega), ixV_get hi]
      simp only [Option.bind_some]
      rw [find12 _ _ (by omega), Option.bind_some, ek64 (by omega), okN_of (by simp; omega) (by simp; omega), iteB_dec]
      unfold newN findI
      rw [lastOf_ix]
      cases hx : lastIx a (lastL b)[i].Name with
      | none => rfl
      | some j =>
        obtain ⟨hj, _⟩ := lastIx_some hx
        obtain ⟨r, e1, e2⟩ := cmp04 a[j].Time.Sec a[j].Time.Nsec (lastL b)[i].Time.Sec (lastL b)[i].Time.Nsec
        simp only [Option.bind_some, List.getElem?_eq_getElem hj]
        rw [if_neg (by omega), ixV_get hj]
        simp only [Option.bind_some]
        rw [e1, Option.bind_some, Option.bind_some, e2]
        show _ = some (Sum.inl (bif earlier ⟨a[j].Time.Sec, a[j].Time.Nsec⟩ ⟨(lastL b)[i].Time.Sec, (lastL b)[i].Time.Nsec⟩ then _ else _, _))
        cases earlier ⟨a[j].Time.Sec, a[j].Time.Nsec⟩ ⟨(lastL b)[i].Time.Sec, (lastL b)[i].Time.Nsec⟩ <;> rfl) a (by omega)).1
  rw [foldI_const, foldApp] at g
  rw [show (a, (0 : Int)) = (a, ((0 : Nat) : Int)) from rfl, g, Option.bind_some, last38_0, last38 _ (by have := List.length_filter_le (newN a) (lastL b); simp; omega)]
  rfl
theorem lawDeltaLists (a : List Mb) {P : Prop} (_ : P) (b : List Mb) {Q : Prop} (_ : Q) : M_boulterlaw38_DeltaLists a b = some true := by
  unfold M_boulterlaw38_DeltaLists
  obtain ⟨ra, e1, ia⟩ := long38 a
  obtain ⟨rb, e2, ib⟩ := long38 b
  rw [e1, Option.bind_some, e2]
  cases ra with
  | true => rfl
  | false =>
    cases rb with
    | true => rfl
    | false =>
      obtain ⟨ha, sa⟩ := ia rfl
      obtain ⟨hb, sb⟩ := ib rfl
      simp only [iteB_false, Option.bind_some, List.nil_append]
      have la := lastL_len a
      have lb := lastL_len b
      have same : ∀ l : List Mb, (∀ x ∈ l, x ∈ a ∨ x ∈ b) → l.length ≤ 1000 → M_boulterref12_Same_sOO l l = some true := fun l hs hl => by
        obtain ⟨r, e, i⟩ := same12 l l (fun m hm => by rcases hs m hm with h | h; have := (sa m h).2; omega; have := (sb m h).2; omega) (by omega)
        rw [e, i.2 rfl]
      rw [okN_of (by simp; omega) (by simp; omega), okN_of (by omega) (by omega), need_true, need_true, lastD a (by omega) sa, last38 a (by omega), sortedD a ha sa, sortedR a (by omega), updateD a b (by omega) (by omega) sa sb, last38_0, last38 _ (by simp; omega), newerD a b ha hb sa sb, newerR a b ha hb]
      simp only [Option.bind_some]
      have l1 := lastL_len (a ++ b)
      have l2 := lastL_len (a ++ (lastL b).filter (newN a))
      have l3 := List.length_filter_le (newN a) (lastL b)
      rw [List.length_append] at l1 l2
      rw [same12_0, same _ (fun x hx => .inl (lastL_mem hx)) (by omega), same _ (fun x hx => .inl (lastL_mem ((sortM_perm _).mem_iff.1 hx))) (by rw [(sortM_perm _).length_eq]; omega),
        same _ (fun x hx => List.mem_append.1 (lastL_mem hx)) (by omega), same _ (fun x hx => by
          rcases List.mem_append.1 (lastL_mem hx) with h | h
          · exact .inl h
          · exact .inr (lastL_mem (List.mem_filter.1 h).1)) (by omega)]
      rfl
end Go.Av.L
