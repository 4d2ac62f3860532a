/-
  Delta: the program's difference.
-/
import Derived.Test.YtcmfogjpkkodbaaDeA
namespace Go.Av.L
open Go.Av Go.Lib
set_option linter.unusedVariables false
set_option linter.unusedSimpArgs false

theorem equalP (a b : List S_api_Pair) : M_slices_Equal_boulter_api_Pair_boulter_api_Pair a b = M_boulterref06_Same a b := rfl
theorem sameA (x y : Mb) (hb : x.Extra.length < 4611686018427387904) : ∃ r, M_archive_Same x y = some r ∧ (r = true ↔ x = y) := by
  unfold M_archive_Same M_archive_bare
  simp only [Option.bind_some]
  obtain ⟨r, h1, h2⟩ := same06 x.Extra y.Extra hb
  rw [equalP, eqG_stamp, h1]
  simp only [Option.bind_some]
  rw [iteB_an, Option.bind_some]
  refine ⟨_, rfl, ?_⟩
  obtain ⟨a1, a2, a3, a4, a5, a6, a7, a8, a9, a10, ⟨t1, t2⟩, a12, a13⟩ := x
  obtain ⟨b1, b2, b3, b4, b5, b6, b7, b8, b9, b10, ⟨u1, u2⟩, b12, b13⟩ := y
  simp only [Bool.and_eq_true, beq_iff_eq, h2, S_api_Member.mk.injEq, S_api_Stamp.mk.injEq]
  constructor
  · rintro ⟨⟨⟨⟨⟨⟨⟨⟨⟨⟨⟨⟨e13, e1⟩, e2⟩, e3⟩, e4⟩, e5⟩, e6⟩, e7⟩, e8⟩, e9⟩, e10⟩, e11, e12⟩, e14⟩
    exact ⟨e1, e2, e3, e4, e5, e6, e7, e8, e9, e10, ⟨e11, e12⟩, e13, e14⟩
  · rintro ⟨e1, e2, e3, e4, e5, e6, e7, e8, e9, e10, ⟨e11, e12⟩, e13, e14⟩
    exact ⟨⟨⟨⟨⟨⟨⟨⟨⟨⟨⟨⟨e13, e1⟩, e2⟩, e3⟩, e4⟩, e5⟩, e6⟩, e7⟩, e8⟩, e9⟩, e10⟩, e11, e12⟩, e14⟩
theorem archive_same (x y : Mb) (h : Short x) : M_archive_Same x y = some (sameB x y) := by
  obtain ⟨r, h1, h2⟩ := Go.Av.L.sameA x y (by have := h.2; omega)
  rw [h1]; congr 1; rw [Bool.eq_iff_iff, h2, sameB_iff]
theorem foldO (a b : List Mb) : ∀ (K : List Str) (s : List Str × List Str × Pl),
    K.foldl (fun (s : List Str × List Str × Pl) n => (bif hasN a n then s.1 else s.1 ++ [n], bif hasN a n && diffN a b n then s.2.1 ++ [n] else s.2.1, mdel s.2.2 n)) s =
    (s.1 ++ K.filter (fun n => !hasN a n), s.2.1 ++ K.filter (fun n => hasN a n && diffN a b n), K.foldl mdel s.2.2)
  | [], s => by simp
  | n :: K, s => by
    rw [List.foldl_cons, foldO a b K]
    cases h1 : hasN a n <;> cases h2 : diffN a b n <;> simp [h1, h2]
theorem mdels {m : Pl} (h : (m.map Prod.fst).Nodup) : ∀ (K : List Str) {m : Pl}, (m.map Prod.fst).Nodup → ((K.foldl mdel m).map Prod.fst).Nodup ∧ ∀ n, mfind (K.foldl mdel m) n = if n ∈ K then none else mfind m n
  | [], m, h => ⟨h, fun n => by simp⟩
  | k :: K, m, h => by
    obtain ⟨h1, h2⟩ := mdels (m := m) h K (nodup_mdel h k)
    refine ⟨h1, fun n => ?_⟩
    rw [List.foldl_cons, h2, mfind_mdel h]
    by_cases e : n = k
    · simp [e]
    · simp [e]
theorem ofD (a b : List Mb) (ha : a.length ≤ 1000) (hb : b.length ≤ 1000) (sa : ∀ x ∈ a, Short x) (sb : ∀ x ∈ b, Short x) :
    M_delta_Of a b = some ⟨addS a b, sortT (((KB b).foldl mdel (placesL a)).map Prod.fst), chgS a b⟩ := by
  unfold M_delta_Of
  rw [places38 a ha, Option.bind_some, places38 b hb, Option.bind_some, keys_ok sb (placesL_nodup b) (fun n h => mem_places.1 h) hb]
  have hK : (KB b).length ≤ 1000 := Nat.le_trans KB_len hb
  have h := (loopL (l := KB b) (step := M_delta_Of_L0 a b (placesL b)) (enc := fun (s : List Str × List Str × Pl) i => (s.1, s.2.1, s.2.2, (i : Int))) (fun s _ n => (bif hasN a n then s.1 else s.1 ++ [n], bif hasN a n && diffN a b n then s.2.1 ++ [n] else s.2.1, mdel s.2.2 n))
    (fun s i => (∀ n, n ∉ (KB b).take i → mfind s.2.2 n = mfind (placesL a) n) ∧ (s.2.2.map Prod.fst).Nodup ∧ s.1.length ≤ i ∧ s.2.1.length ≤ i) (fun s => s)
    (fun s _ => by unfold M_delta_Of_L0; dsimp only; rw [show sortT ((placesL b).map Prod.fst) = KB b from rfl, iteB_dec, if_neg (by omega)])
    (fun s i hi hs => by
      obtain ⟨add, chg, x⟩ := s
      obtain ⟨hs1, hs2, hs3, hs4⟩ := hs
      dsimp only at hs1 hs2 hs3 hs4 ⊢
      have hnot : (KB b)[i] ∉ (KB b).take i := by
        intro hm
        have hnd := KB_nodup b
        rw [← List.take_append_drop i (KB b), List.drop_eq_getElem_cons hi, List.nodup_append] at hnd
        exact hnd.2.2 _ hm _ List.mem_cons_self rfl
      have hmem : hasN b (KB b)[i] = true := mem_KB.1 (List.getElem_mem hi)
      refine ⟨?_, ?_, nodup_mdel hs2 _, ?_, ?_⟩
      · unfold M_delta_Of_L0; dsimp only
        rw [show sortT ((placesL b).map Prod.fst) = KB b from rfl, iteB_dec, if_pos (by omega), ixV_get hi, Option.bind_some, hs1 _ hnot, placesL_find, placesL_find, ek64 (by omega)]
        generalize (KB b)[i] = n at *
        have hok : ∀ (k : Nat), k ≤ 3000 → okN 16 k = true := fun k hk => okN_of (by omega) (by omega)
        cases hia : lastIx a n with
        | none =>
          rw [lastIx_none.1 hia]
          simp only [Option.map_none, Option.isSome_none, Bool.not_false, iteB_true, cond_false, Bool.false_and]
          rw [hok _ (by simp; omega)]; rfl
        | some j =>
          obtain ⟨hj, _⟩ := lastIx_some hia
          have hat : hasN a n = true := by
            cases e : hasN a n with
            | true => rfl
            | false => rw [lastIx_none.2 e] at hia; cases hia
          cases hib : lastIx b n with
          | none => rw [lastIx_none.1 hib] at hmem; cases hmem
          | some k =>
            obtain ⟨hk, _⟩ := lastIx_some hib
            have hd : diffN a b n = !(sameB a[j] b[k]) := by
              unfold diffN
              rw [lastOf_ix, lastOf_ix, hia, hib]
              simp [List.getElem?_eq_getElem hj, List.getElem?_eq_getElem hk]
            rw [hat, hd]
            simp only [Option.map_some, Option.isSome_some, Bool.not_true, iteB_false, Option.getD_some, cond_true, Bool.true_and]
            rw [ixV_get hj, Option.bind_some, ixV_get hk, Option.bind_some, archive_same _ _ (sa _ (List.getElem_mem hj)), Option.bind_some]
            cases sameB a[j] b[k] with
            | true => rfl
            | false =>
              simp only [Bool.not_false, iteB_true, cond_true]
              rw [hok _ (by simp; omega)]; rfl
      · intro n hn
        rw [List.take_succ_eq_append_getElem hi] at hn
        simp only [List.mem_append, List.mem_singleton, not_or] at hn
        rw [mfind_mdel hs2, if_neg hn.2, hs1 n hn.1]
      · cases hasN a (KB b)[i] <;> simp <;> omega
      · cases hasN a (KB b)[i] && diffN a b (KB b)[i] <;> simp <;> omega) ([], [], placesL a) ⟨fun n _ => rfl, placesL_nodup a, by simp, by simp⟩).1
  dsimp only at h
  rw [need_true, show (([] : List Str), ([] : List Str), placesL a, (0 : Int)) = (([] : List Str), ([] : List Str), placesL a, ((0 : Nat) : Int)) from rfl, h, Option.bind_some, foldI_const, foldO]
  dsimp only
  obtain ⟨d1, d2⟩ := mdels (placesL_nodup a) (KB b) (placesL_nodup a)
  rw [keys_ok sa d1 (fun n hn => ?_) ha]
  · rfl
  · rw [mem_keys, d2] at hn
    split at hn
    · cases hn
    · exact mem_places.1 (mem_keys.2 hn)
/-- what is left of the first one -/
theorem remD (a b : List Mb) : sortT (((KB b).foldl mdel (placesL a)).map Prod.fst) = addS b a := by
  obtain ⟨d1, d2⟩ := mdels (placesL_nodup a) (KB b) (placesL_nodup a)
  refine List.Perm.eq_of_pairwise (le := fun x y : Str => x ≤ y) (fun x y _ _ h1 h2 => List.le_antisymm h1 h2) (sortT_sorted _) (List.Pairwise.sublist List.filter_sublist (sortT_sorted _)) ?_
  refine (sortT_perm _).trans ((List.perm_ext_iff_of_nodup d1 (List.Nodup.sublist List.filter_sublist (KB_nodup a))).2 fun n => ?_)
  rw [mem_keys, d2, List.mem_filter]
  by_cases hn : n ∈ KB b
  · rw [if_pos hn]; simp [mem_KB.1 hn]
  · rw [if_neg hn, ← mem_keys, mem_places, mem_KB]
    have : hasN b n = false := by cases e : hasN b n with | false => rfl | true => exact absurd (mem_KB.2 e) hn
    simp [this]
theorem ofD' (a b : List Mb) (ha : a.length ≤ 1000) (hb : b.length ≤ 1000) (sa : ∀ x ∈ a, Short x) (sb : ∀ x ∈ b, Short x) : M_delta_Of a b = some ⟨addS a b, addS b a, chgS a b⟩ := by rw [ofD a b ha hb sa sb, remD]
theorem addS_len {a b : List Mb} (hb : b.length ≤ 1000) : (addS a b).length ≤ 1000 := Nat.le_trans (List.length_filter_le _ _) (Nat.le_trans KB_len hb)
theorem chgS_len {a b : List Mb} (hb : b.length ≤ 1000) : (chgS a b).length ≤ 1000 := Nat.le_trans (List.length_filter_le _ _) (Nat.le_trans KB_len hb)
end Go.Av.L
