/-
  Delta: one list behind another one; what is newer.
-/
import Derived.Test.YtcmfogjpkkodbaaDeLast
namespace Go.Av.L
open Go.Av Go.Lib
set_option linter.unusedVariables false
set_option linter.unusedSimpArgs false

theorem places38_0 (l : List Mb) : M_delta_places_sO l = M_delta_places l := rfl
theorem kept38_0 (l : List Mb) (m : Pl) : M_delta_kept_sOM l m = M_delta_kept l m := rfl
theorem lastD_0 (l : List Mb) : M_delta_Last_sO l = M_delta_Last l := rfl
theorem same12_0 (a b : List Mb) : M_boulterref12_Same_sVO a b = M_boulterref12_Same_sOO a b := rfl
theorem concat38 (a b : List Mb) (ha : a.length ≤ 100) (hb : b.length ≤ 100) : M_slices_Concat_boulter_api_Member_boulter_api_Member_sO ([a, b] : List (List Mb)) = some (a ++ b) := by
  unfold M_slices_Concat_boulter_api_Member_boulter_api_Member_sO
  have s0 : M_slices_Concat_boulter_api_Member_boulter_api_Member_sO_L0 [a, b] (0, 0) = some (.inl ((a.length : Int), 1)) := by
    unfold M_slices_Concat_boulter_api_Member_boulter_api_Member_sO_L0; dsimp only
    rw [iteB_dec, if_pos (by simp), show ixV ([a, b] : List (List Mb)) 0 = some a from rfl, Option.bind_some, w64 (x := 0 + (a.length : Int)) (by omega) (by omega), iteB_dec, if_neg (by omega), Int.zero_add]
    rfl
  have s1 : M_slices_Concat_boulter_api_Member_boulter_api_Member_sO_L0 [a, b] ((a.length : Int), 1) = some (.inl ((a.length : Int) + (b.length : Int), 2)) := by
    unfold M_slices_Concat_boulter_api_Member_boulter_api_Member_sO_L0; dsimp only
    rw [iteB_dec, if_pos (by simp), show ixV ([a, b] : List (List Mb)) 1 = some b from rfl, Option.bind_some, w64 (x := (a.length : Int) + (b.length : Int)) (by omega) (by omega), iteB_dec, if_neg (by omega)]
    rfl
  have s2 : ∀ n, M_slices_Concat_boulter_api_Member_boulter_api_Member_sO_L0 [a, b] (n, 2) = some (.inr n) := fun n => by
    unfold M_slices_Concat_boulter_api_Member_boulter_api_Member_sO_L0; dsimp only
    rw [iteB_dec, if_neg (by simp)]
  have t0 : M_slices_Concat_boulter_api_Member_boulter_api_Member_sO_L1 [a, b] ([], 0) = some (.inl (a, 1)) := by
    unfold M_slices_Concat_boulter_api_Member_boulter_api_Member_sO_L1; dsimp only
    rw [iteB_dec, if_pos (by simp), show ixV ([a, b] : List (List Mb)) 0 = some a from rfl, Option.bind_some, okN_of (by simp; omega) (by simp; omega)]
    rfl
  have t1 : M_slices_Concat_boulter_api_Member_boulter_api_Member_sO_L1 [a, b] (a, 1) = some (.inl (a ++ b, 2)) := by
    unfold M_slices_Concat_boulter_api_Member_boulter_api_Member_sO_L1; dsimp only
    rw [iteB_dec, if_pos (by simp), show ixV ([a, b] : List (List Mb)) 1 = some b from rfl, Option.bind_some, okN_of (by omega) (by omega)]
    rfl
  have t2 : ∀ l, M_slices_Concat_boulter_api_Member_boulter_api_Member_sO_L1 [a, b] (l, 2) = some (.inr l) := fun l => by
    unfold M_slices_Concat_boulter_api_Member_boulter_api_Member_sO_L1; dsimp only
    rw [iteB_dec, if_neg (by simp)]
  have hk : mkN 168 ((a.length : Int) + (b.length : Int)) = true := by unfold mkN; exact decide_eq_true ⟨by omega, by omega, by omega⟩
  rw [loop_step s0, loop_step s1, loop_done (s2 _), Option.bind_some, hk, need_true, loop_step t0, loop_step t1, loop_done (t2 _)]
  rfl
theorem updateD (a b : List Mb) (ha : a.length ≤ 100) (hb : b.length ≤ 100) (sa : ∀ x ∈ a, Short x) (sb : ∀ x ∈ b, Short x) : M_delta_Update a b = some (lastL (a ++ b)) := by
  unfold M_delta_Update
  rw [concat38 a b ha hb, Option.bind_some, lastD_0, lastD _ (by simp; omega) (fun x hx => by rcases List.mem_append.1 hx with h | h; exact sa x h; exact sb x h)]
  rfl
/-- is a time earlier? -/
def earlier (x y : S_api_Stamp) : Bool := decide (x.Sec < y.Sec) || (x.Sec == y.Sec && decide (x.Nsec < y.Nsec))
theorem stamp38 (x y : S_api_Stamp) : ∃ r, M_stamp_Cmp x y = some r ∧ decide (r < 0) = earlier x y := by
  unfold M_stamp_Cmp earlier
  rw [eqG_stamp, Option.bind_some]
  cases h : (x.Sec == y.Sec && x.Nsec == y.Nsec) with
  | true =>
    rw [iteB_true]
    refine ⟨0, rfl, ?_⟩
    simp only [Bool.and_eq_true, beq_iff_eq] at h
    rw [h.1, h.2]; simp
  | false =>
    rw [iteB_false]
    cases hq : (decide (x.Sec < y.Sec) || (x.Sec == y.Sec && decide (x.Nsec < y.Nsec))) with
    | true => exact ⟨-1, rfl, by simp⟩
    | false => exact ⟨1, rfl, by simp⟩
/-- is the other list's newer? -/
def newN (a : List Mb) (y : Mb) : Bool :=
  match lastOf a y.Name with
  | some x => earlier x.Time y.Time
  | none => true
theorem foldApp (q : Mb → Bool) : ∀ (l s : List Mb), l.foldl (fun s y => bif q y then s ++ [y] else s) s = s ++ l.filter q
  | [], s => by simp
  | y :: l, s => by
    rw [List.foldl_cons, foldApp q l]
    cases h : q y <;> simp [h]
theorem newerD (a b : List Mb) (ha : a.length ≤ 10) (hb : b.length ≤ 10) (sa : ∀ x ∈ a, Short x) (sb : ∀ x ∈ b, Short x) : M_delta_Newer a b = some (lastL (a ++ (lastL b).filter (newN a))) := by
  unfold M_delta_Newer
  have lb := lastL_len b
  rw [places38 a (by omega), Option.bind_some, okN_of (by omega) (by omega), need_true, lastD b (by omega) sb, Option.bind_some]
  have g := (loopL (l := lastL b) (step := M_delta_Newer_L0 a (placesL a) (lastL b)) (enc := fun (s : List Mb) i => (s, (i : Int))) (fun s _ y => bif newN a y then s ++ [y] else s) (fun s i => s.length ≤ 10 + i) (fun s => s)
    (fun s _ => by unfold M_delta_Newer_L0; dsimp only; rw [iteB_dec, if_neg (by omega)])
    (fun s i hi hs => by
      refine ⟨?_, by cases newN a (lastL b)[i] <;> simp <;> omega⟩
      unfold M_delta_Newer_L0; dsimp only
      rw [iteB_dec, if_pos (by omega), ixV_get hi, Option.bind_some, placesL_find, ek64 (by omega), okN_of (by simp; omega) (by simp; omega)]
      unfold newN
      rw [lastOf_ix]
      cases hx : lastIx a (lastL b)[i].Name with
      | none => rfl
      | some j =>
        obtain ⟨hj, _⟩ := lastIx_some hx
        obtain ⟨r, e1, e2⟩ := stamp38 a[j].Time (lastL b)[i].Time
        simp only [Option.map_some, Option.isSome_some, Bool.not_true, iteB_false, Option.getD_some, Option.bind_some, List.getElem?_eq_getElem hj]
        rw [ixV_get hj, Option.bind_some, e1, Option.bind_some, Option.bind_some, e2]
        cases earlier a[j].Time (lastL b)[i].Time <;> rfl) a (by omega)).1
  rw [foldI_const, foldApp] at g
  rw [show (a, (0 : Int)) = (a, ((0 : Nat) : Int)) from rfl, g, Option.bind_some, lastD_0, lastD _ (by have := List.length_filter_le (newN a) (lastL b); simp; omega) (fun x hx => by
    rcases List.mem_append.1 hx with h | h
    · exact sa x h
    · exact sb x (lastL_mem (List.mem_filter.1 h).1))]
  rfl
end Go.Av.L
