/-
  Delta: lists that rise.
-/
import Derived.Test.YtcmfogjpkkodbaaDeA
namespace Go.Av.L
open Go.Av Go.Lib
set_option linter.unusedVariables false
set_option linter.unusedSimpArgs false

theorem byName1 (a b : Mb) : M_delta_byName_1 a b = some (compareBytes a.Name b.Name) := rfl
theorem bubble : ∀ (n : Nat) (p s : List Mb) (m : Mb), p.length = n → p.length < 4000 → Ris p → loop (M_slices_insertionSortCmpFunc_boulter_api_Member_sOIIF_8ba1_L1 0) (p ++ m :: s, (p.length : Int)) = some (insM p m ++ s) := by
  intro n
  induction n with
  | zero =>
    intro p s m hn hl hr
    obtain rfl : p = [] := List.length_eq_zero_iff.1 hn
    refine loop_done ?_
    unfold M_slices_insertionSortCmpFunc_boulter_api_Member_sOIIF_8ba1_L1
    simp [iteB_dec, insM]
  | succ n ih =>
    intro p s m hn hl hr
    obtain ⟨p, x, rfl⟩ : ∃ q y, p = q ++ [y] := ⟨p.dropLast, p.getLast (by intro e; subst e; simp at hn), (List.dropLast_concat_getLast _).symm⟩
    have hn' : p.length = n := by simpa using hn
    have g1 : ((p ++ [x]) ++ m :: s)[p.length + 1]? = some m := by rw [List.getElem?_append_right (by simp)]; simp
    have g2 : ((p ++ [x]) ++ m :: s)[p.length]? = some x := by rw [List.append_assoc, List.getElem?_append_right (Nat.le_refl _)]; simp
    have ej : ((p ++ [x]).length : Int) = ((p.length + 1 : Nat) : Int) := by simp
    have ew : IntKind.i64.wrap (((p.length + 1 : Nat) : Int) - 1) = ((p.length : Nat) : Int) := by rw [w64 (by omega) (by omega)]; omega
    rw [ej]
    have hstep : M_slices_insertionSortCmpFunc_boulter_api_Member_sOIIF_8ba1_L1 0 ((p ++ [x]) ++ m :: s, ((p.length + 1 : Nat) : Int)) = bif Op.bytesLess m.Name x.Name then some (.inl (p ++ m :: x :: s, (p.length : Int))) else some (.inr ((p ++ [x]) ++ m :: s)) := by
      unfold M_slices_insertionSortCmpFunc_boulter_api_Member_sOIIF_8ba1_L1
      dsimp only
      rw [iteB_dec, if_pos (by omega), ixV_nat g1, ew, ixV_nat g2]
      simp only [Option.bind_some, byName1, cmp_neg]
      cases Op.bytesLess m.Name x.Name with
      | false => rfl
      | true =>
        simp only [iteB_true, Option.bind_some, cond_true]
        have e1 : ((p.length + 1 : Nat) : Int).toNat = p.length + 1 := by omega
        have e2 : ((p.length : Nat) : Int).toNat = p.length := by omega
        rw [e1, e2]
        have s1 : ((p ++ [x]) ++ m :: s).set (p.length + 1) x = p ++ x :: x :: s := by
          rw [List.append_assoc, List.set_append_right _ _ (by omega)]
          simp
        rw [s1]
        have g3 : (p ++ x :: x :: s)[p.length]? = some x := by rw [List.getElem?_append_right (Nat.le_refl _)]; simp
        rw [ixV_nat g3, Option.bind_some, List.set_append_right _ _ (Nat.le_refl _)]
        simp
    cases hb : Op.bytesLess m.Name x.Name with
    | true =>
      rw [hb, cond_true] at hstep
      rw [loop_step hstep, ih p (x :: s) m hn' (by simp at hl; omega) ((List.pairwise_append.1 hr).1), insM_lt hb]
      simp
    | false =>
      rw [hb, cond_false] at hstep
      rw [loop_done hstep, insM_ge (p ++ [x]) (fun y hy => ?_)]
      · simp
      · rw [blessN] at hb ⊢
        rcases List.mem_append.1 hy with hy | hy
        · exact List.le_trans ((List.pairwise_append.1 hr).2.2 y hy x (by simp)) hb
        · simp at hy; subst hy; exact hb
theorem insSort (l : List Mb) (hl : l.length ≤ 1000) : M_slices_insertionSortCmpFunc_boulter_api_Member_sOIIF_8ba1 l 0 (l.length : Int) = some (sortM l) := by
  unfold M_slices_insertionSortCmpFunc_boulter_api_Member_sOIIF_8ba1
  have key : ∀ (k : Nat) (acc rest : List Mb), rest.length = k → Ris acc → acc.length + rest.length = l.length →
      loop (M_slices_insertionSortCmpFunc_boulter_api_Member_sOIIF_8ba1_L0 0 (l.length : Int)) (acc ++ rest, (acc.length : Int)) = some (rest.foldl insM acc) := by
    intro k
    induction k with
    | zero =>
      intro acc rest hk hr hlen
      obtain rfl : rest = [] := List.length_eq_zero_iff.1 hk
      refine loop_done ?_
      unfold M_slices_insertionSortCmpFunc_boulter_api_Member_sOIIF_8ba1_L0
      dsimp only
      rw [iteB_dec, if_neg (by simp at hlen; omega)]
      simp
    | succ k ih =>
      intro acc rest hk hr hlen
      cases rest with
      | nil => simp at hk
      | cons m rest =>
        have hstep : M_slices_insertionSortCmpFunc_boulter_api_Member_sOIIF_8ba1_L0 0 (l.length : Int) (acc ++ m :: rest, (acc.length : Int)) = some (.inl (insM acc m ++ rest, ((acc.length + 1 : Nat) : Int))) := by
          unfold M_slices_insertionSortCmpFunc_boulter_api_Member_sOIIF_8ba1_L0
          dsimp only
          simp only [List.length_cons] at hlen
          rw [iteB_dec, if_pos (by omega), bubble acc.length acc rest m rfl (by omega) hr, Option.bind_some, ek64 (by omega)]
        rw [loop_step hstep]
        have e : acc.length + 1 = (insM acc m).length := by rw [(insM_perm m acc).length_eq]; rfl
        rw [e]
        exact ih (insM acc m) rest (by simpa using hk) (insM_ris m hr) (by rw [← e]; simp at hlen; omega)
  cases l with
  | nil =>
    rw [loop_done (r := ([] : List Mb)) (by
      unfold M_slices_insertionSortCmpFunc_boulter_api_Member_sOIIF_8ba1_L0
      dsimp only
      rw [w64 (by omega) (by omega), iteB_dec, if_neg (by simp)])]
    rfl
  | cons x l =>
    have := key l.length [x] l rfl (by simp [Ris]) (by simp; omega)
    rw [w64 (by omega) (by omega)]
    simp only [List.length_singleton, List.cons_append, List.nil_append] at this
    rw [show (0 : Int) + 1 = ((1 : Nat) : Int) from rfl, this]
    rfl
theorem insSort_none (l : List Mb) (n : Int) (h0 : 0 ≤ n) (hn : n ≤ 1000) : M_slices_insertionSortCmpFunc_boulter_api_Member_sOIIF_8ba1 l n n = some l := by
  unfold M_slices_insertionSortCmpFunc_boulter_api_Member_sOIIF_8ba1
  rw [loop_done (r := l) (by
    unfold M_slices_insertionSortCmpFunc_boulter_api_Member_sOIIF_8ba1_L0
    dsimp only
    rw [w64 (by omega) (by omega), iteB_dec, if_neg (by omega)])]
  rfl
theorem byName38 (l : List Mb) (hl : l.length ≤ 20) : M_delta_byName_sO l = some (sortM l) := by
  unfold M_delta_byName_sO M_slices_SortStableFunc_boulter_api_Member_boulter_api_Member_sOF_c496 M_slices_stableCmpFunc_boulter_api_Member_sOIF_04e2
  have hlast : loop (M_slices_stableCmpFunc_boulter_api_Member_sOIF_04e2_L1 (l.length : Int)) (20 : Int) = some () := loop_done (by
    unfold M_slices_stableCmpFunc_boulter_api_Member_sOIF_04e2_L1
    dsimp only
    rw [iteB_dec, if_neg (by omega)])
  by_cases h20 : l.length = 20
  · have h1 : M_slices_stableCmpFunc_boulter_api_Member_sOIF_04e2_L0 (l.length : Int) (l, 0, 20) = some (.inl (sortM l, 20, 40)) := by
      unfold M_slices_stableCmpFunc_boulter_api_Member_sOIF_04e2_L0
      dsimp only
      rw [iteB_dec, if_pos (by omega)]
      have := insSort l (by omega)
      rw [h20] at this
      rw [show (20 : Int) = ((20 : Nat) : Int) from rfl, this, Option.bind_some, w64 (by omega) (by omega)]
      rfl
    have h2 : M_slices_stableCmpFunc_boulter_api_Member_sOIF_04e2_L0 (l.length : Int) (sortM l, 20, 40) = some (.inr (sortM l, 20)) := by
      unfold M_slices_stableCmpFunc_boulter_api_Member_sOIF_04e2_L0
      dsimp only
      rw [iteB_dec, if_neg (by omega)]
    rw [loop_step h1, loop_done h2]
    simp only [Option.bind_some]
    have := insSort_none (sortM l) 20 (by omega) (by omega)
    rw [show (l.length : Int) = 20 from by omega] at hlast ⊢
    rw [this]
    simp only [Option.bind_some, hlast]
  · have h1 : M_slices_stableCmpFunc_boulter_api_Member_sOIF_04e2_L0 (l.length : Int) (l, 0, 20) = some (.inr (l, 0)) := by
      unfold M_slices_stableCmpFunc_boulter_api_Member_sOIF_04e2_L0
      dsimp only
      rw [iteB_dec, if_neg (by omega)]
    rw [loop_done h1]
    simp only [Option.bind_some, insSort l (by omega), hlast]

end Go.Av.L
