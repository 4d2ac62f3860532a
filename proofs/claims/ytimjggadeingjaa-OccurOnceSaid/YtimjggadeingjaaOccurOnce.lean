/-
  OCCUR: of each row just the n-th one is picked: plain Lean, no program in sight.
-/
import Derived.Test.YtimjggadeingjaaLlaw30
import Derived.Test.YtimjggadeingjaaOccurPick
namespace Go.Abs.L
open Go.Abs
set_option linter.unusedVariables false

structure OnceInv (h : AHeap) (K : Int) (n : Nat) (i : Int) (h4 : AHeap) (k : Nat) (cnt : List Int) : Prop where
  i : i = k
  le : k ≤ n
  size : h4.size = h.size + 3
  same : Same (· < h.size) h h4
  pick : Pick h4 h.size K 5 cnt
  count : h4.get (h.size + 1) = some (.cells none 2 (arr .i64 (cnt.take 5)))
  picked : h4.get (h.size + 2) = some (.cells none 2 (arr .i64 ((cnt.take 5).map fun c => if c ≥ K then 1 else 0)))
  pos : ∀ c ∈ cnt, 0 ≤ c ∧ c ≤ k

theorem lawOccurOnce (h : AHeap) (x0 : Int) (k0 : (RInt cfg.P .u8).ok x0) (x1 : List Int) (k1 : (RSlice (RInt cfg.P .u8)).ok x1) (c1 : Sl) (m1 : c1.n = x1.length) (u1 : ∃ cells, View cfg.P (· < h.size) h 1 c1 cells ∧ reps (RInt cfg.P .u8) (· < h.size) h x1 cells) : M_boulterlaw30_OccurOnce h x0 c1 = some true := by
  have k0 : (0 : Int) ≤ x0 ∧ x0 ≤ 255 := k0
  have eK : IntKind.i64.wrap ((1 : Int) + Int.tmod (IntKind.i64.wrap x0) 4) = 1 + x0 % 4 := by
    rw [w64 (x := x0) (by omega) (by omega), Int.tmod_eq_emod_of_nonneg k0.1, w64 (by omega) (by omega)]
  obtain ⟨K, hK⟩ : ∃ K, K = 1 + x0 % 4 := ⟨_, rfl⟩
  have K1 : 1 ≤ K ∧ K ≤ 4 := by omega
  unfold M_boulterlaw30_OccurOnce
  rw [eK, ← hK, new_ok (by omega) (by omega)]
  simp only [Option.bind_some]
  by_cases hlen : (c1.n : Int) > 80
  · simp [hlen, M_boulterlaw30_awake]
  rw [show (((((0 : Int) != 0) || (some (h.size, 0) : Option (Nat × Nat)).isNone) || decide ((c1.n : Int) > 80))) = false from by simpa using hlen]
  simp only [iteB_false]
  refine W.eq (W.bind (W.mono (Q := fun o => ∃ (s : Int × AHeap) (k : Nat) (cnt : List Int), o = .inl s.2 ∧ OnceInv h K x1.length s.1 s.2 k cnt) ?_ ?_))
  · refine W.loop (fun s => ∃ k cnt, OnceInv h K x1.length s.1 s.2 k cnt) (fun s => x1.length - s.1.toNat) ⟨0, zer, rfl, by omega, rfl, ?_, ⟨?_, zer_length⟩, ?_, ?_, ?_⟩ ?_
    · intro id hi
      rw [AHeap.get_push_old _ _ (by simp; omega), AHeap.get_push_old _ _ (by simp; omega), AHeap.get_push_old _ _ hi]
    · rw [AHeap.get_push_old _ _ (by simp; omega), AHeap.get_push_old _ _ (by simp), AHeap.get_push_new]
    · rw [AHeap.get_push_old _ _ (by simp), zer_take (by omega)]
      exact AHeap.get_push_new _ _
    · rw [show List.map (fun c => if c ≥ K then (1 : Int) else 0) (List.take 5 zer) = [0, 0, 0, 0, 0] from by
        have : ¬ (0 : Int) ≥ K := by omega
        rw [zer_take (by omega)]
        simp [List.replicate_succ, this]]
      exact AHeap.get_push_new _ _
    · intro c hc; have := zer_mem hc; omega
    · rintro ⟨i, h4⟩ ⟨k, cnt, v⟩
      have v : OnceInv h K x1.length i h4 k cnt := v
      have ei : i = k := v.i
      subst ei
      unfold M_boulterlaw30_OccurOnce_L0
      refine W.iteP (fun hlt => ?_) (fun hge => ?_)
      · have hk : k < x1.length := by omega
        obtain ⟨a, ea, la⟩ := slice_ldI (P := cfg.P) (slice_keep u1 v.same (fun _ x => x)) m1 (List.getElem?_eq_getElem hk)
        have hx : (0 : Int) ≤ x1[k] ∧ x1[k] ≤ 255 := k1.2 _ (List.getElem_mem hk)
        obtain ⟨row, hrow⟩ : ∃ row : Nat, (x1[k] % 5) = row := ⟨(x1[k] % 5).toNat, by omega⟩
        have hrow5 : row < 5 := by omega
        have er : Int.tmod (IntKind.i64.wrap x1[k]) 5 = row := by rw [w64 (by omega) (by omega), Int.tmod_eq_emod_of_nonneg hx.1, hrow]
        have hcl : row < cnt.length := by rw [v.pick.2]; omega
        have hc := v.pos _ (List.getElem_mem hcl)
        have hgd : cnt.getD row 0 = cnt[row] := by simp [List.getD_eq_getElem?_getD, List.getElem?_eq_getElem hcl]
        have hct : (cnt.take 5)[row]? = some cnt[row] := by rw [List.getElem?_take, if_pos hrow5, List.getElem?_eq_getElem hcl]
        have htl : (cnt.take 5).length = 5 := by simp [v.pick.2]
        have hbump : bump cnt row = cnt.set row (cnt[row] + 1) := by unfold bump; rw [hgd, if_pos (by omega)]
        obtain ⟨h5, t1, t2, t3, t4⟩ := take_spec (g := ⟨h.size, []⟩) v.pick (may_ge (Nat.le_refl _)) (row := row) (by omega) (by omega) (by rw [hgd]; omega)
        have sz4 : h4.size = h.size + 3 := v.size
        have g1 : h5.get (h.size + 1) = _ := (t3.get _ (by omega) (by simp)).trans v.count
        have g2 : h5.get (h.size + 2) = _ := (t3.get _ (by omega) (by simp)).trans v.picked
        have eb : (decide (K = 0) || decide ((bump cnt row).getD row 0 = K)) = decide (cnt[row] + 1 = K) := by
          rw [show decide (K = 0) = false from by simp; omega, hbump]
          simp [List.getD_eq_getElem?_getD, hcl]
        have s5 : Same (· < h.size) h h5 := v.same.trans (t3.same fun id hi => ⟨by omega, by simp; omega⟩)
        have st1 := arr_st (g := ⟨h.size, []⟩) g1 (may_ge (by omega)) (i := row) (by omega) (cnt[row] + 1)
        obtain ⟨h6, e6⟩ : ∃ h6, h6 = h5.set (h.size + 1) (.cells none 2 (arr .i64 ((cnt.take 5).set row (cnt[row] + 1)))) := ⟨_, rfl⟩
        rw [← e6] at st1
        have z6 : h6.size = h.size + 3 := by rw [e6]; simp; omega
        have g61 : h6.get (h.size + 1) = some (.cells none 2 (arr .i64 ((cnt.set row (cnt[row] + 1)).take 5))) := by
          rw [e6, AHeap.get_set_same _ _ (by omega), List.take_set]
        have g62 : h6.get (h.size + 2) = some (.cells none 2 (arr .i64 ((cnt.take 5).map fun c => if c ≥ K then 1 else 0))) := by rw [e6, AHeap.get_set_ne _ _ (by omega) (by omega)]; exact g2
        have p6 : Pick h6 h.size K 5 (cnt.set row (cnt[row] + 1)) := by
          rw [hbump] at t2
          refine ⟨?_, t2.2⟩
          rw [e6, AHeap.get_set_ne _ _ (by omega) (by omega)]; exact t2.1
        have s6 : Same (· < h.size) h h6 := s5.trans (fun id hi => by rw [e6, AHeap.get_set_ne _ _ (by omega) (by omega)])
        have pos6 : ∀ c ∈ cnt.set row (cnt[row] + 1), 0 ≤ c ∧ c ≤ ((k + 1 : Nat) : Int) := by
          intro c hc'
          rcases List.mem_or_eq_of_mem_set hc' with h1 | h1
          · have := v.pos _ h1; omega
          · omega
        rw [ea]
        simp only [AHeap.size_push, Option.bind_some, la, er, t1, bne_self_eq_false, iteB_false, ixA_nat hrow5, arr_ld g1 (by simp) hct, w64 (show -9223372036854775808 ≤ cnt[row] + 1 by omega) (by omega), st1, eb]
        have ek : IntKind.i64.wrap ((k : Int) + 1) = ((k + 1 : Nat) : Int) := by rw [w64 (by omega) (by omega)]; omega
        by_cases hp : cnt[row] + 1 = K
        · have hpt : ((cnt.take 5).map fun c => if c ≥ K then (1 : Int) else 0)[row]? = some 0 := by
            rw [List.getElem?_map, hct]; simp; omega
          have st2 := arr_st (g := ⟨h.size, []⟩) g62 (may_ge (by omega)) (i := row) (by simp [v.pick.2]; omega) (0 + 1)
          simp only [hp, decide_true, iteB_true, arr_ld g62 (by simp) hpt, Option.bind_some, w64 (show -9223372036854775808 ≤ (0 : Int) + 1 by omega) (by omega), st2, ek]
          refine W.ret ⟨⟨k + 1, _, rfl, by omega, by simp; omega, ?_, ⟨?_, p6.2⟩, ?_, ?_, pos6⟩, by simp; omega⟩
          · exact s6.trans (fun id hi => by rw [AHeap.get_set_ne _ _ (by omega) (by omega)])
          · rw [AHeap.get_set_ne _ _ (by omega) (by omega)]; exact p6.1
          · rw [AHeap.get_set_ne _ _ (by omega) (by omega)]; exact g61
          · rw [AHeap.get_set_same _ _ (by omega), List.take_set, List.map_set, hp]
            simp
        · simp only [hp, decide_false, iteB_false, Option.bind_some, ek]
          refine W.ret ⟨⟨k + 1, _, rfl, by omega, z6, s6, p6, g61, ?_, pos6⟩, by simp; omega⟩
          rw [g62, List.take_set, List.map_set]
          have : (if cnt[row] + 1 ≥ K then (1 : Int) else 0) = if cnt[row] ≥ K then 1 else 0 := by
            by_cases h1 : cnt[row] ≥ K
            · rw [if_pos h1, if_pos (by omega)]
            · rw [if_neg h1, if_neg (by omega)]
          rw [this]
          congr 3
          apply List.ext_getElem?
          intro j
          rw [List.getElem?_set]
          split
          · rename_i hj
            subst hj
            rw [List.getElem?_map, hct]
            simp [v.pick.2]
            omega
          · rfl
      · exact W.ret ⟨(k, h4), k, cnt, rfl, v⟩
  · rintro o ⟨⟨i, h9⟩, k, cnt, rfl, v⟩
    have v : OnceInv h K x1.length i h9 k cnt := v
    have ei : i = k := v.i
    subst ei
    have sz4 : h9.size = h.size + 3 := v.size
    have htl : (cnt.take 5).length = 5 := by simp [v.pick.2]
    refine W.bind (W.mono (Q := fun o => o = .inl ()) ?_ (fun o ho => by rw [ho]; exact W.ret rfl))
    refine W.loop (fun s => ∃ j : Nat, s = j ∧ j ≤ 5) (fun s => 5 - s.toNat) ⟨0, rfl, by omega⟩ ?_
    rintro s ⟨j, rfl, hj⟩
    unfold M_boulterlaw30_OccurOnce_L1
    refine W.iteP (fun hlt => ?_) (fun hge => ?_)
    · have hj5 : j < 5 := by omega
      have hcl : j < cnt.length := by rw [v.pick.2]; omega
      have hct : (cnt.take 5)[j]? = some cnt[j] := by rw [List.getElem?_take, if_pos hj5, List.getElem?_eq_getElem hcl]
      have hpt : ((cnt.take 5).map fun c => if c ≥ K then (1 : Int) else 0)[j]? = some (if cnt[j] ≥ K then 1 else 0) := by
        rw [List.getElem?_map, hct]; rfl
      have hgd : cnt.getD j 0 = cnt[j] := by simp [List.getD_eq_getElem?_getD, List.getElem?_eq_getElem hcl]
      have hc := count_spec v.pick (row := j) (by omega) (by omega)
      simp only [ixA_nat hj5, Option.bind_some, AHeap.size_push]
      rw [arr_ld v.count (by simp) hct]
      simp only [Option.bind_some]
      rw [arr_ld v.picked (by simp) hpt, eK, ← hK]
      simp only [Option.bind_some]
      rw [hc, hgd]
      have ek : IntKind.i64.wrap ((j : Int) + 1) = ((j + 1 : Nat) : Int) := by rw [w64 (by omega) (by omega)]; omega
      by_cases h1 : cnt[j] ≥ K
      · simp [h1, ek]
        exact W.ret ⟨⟨j + 1, rfl, by omega⟩, by omega⟩
      · simp [h1, ek]
        exact W.ret ⟨⟨j + 1, rfl, by omega⟩, by omega⟩
    · exact W.ret rfl
end Go.Abs.L
