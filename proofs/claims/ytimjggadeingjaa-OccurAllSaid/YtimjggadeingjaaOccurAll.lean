/-
  OCCUR: with 0 all are picked: plain Lean, no program in sight.
-/
import Derived.Test.YtimjggadeingjaaLlaw30
import Derived.Test.YtimjggadeingjaaOccurMiss
namespace Go.Abs.L
open Go.Abs
set_option linter.unusedVariables false

theorem missing_count {cnt : List Int} {t : Nat} : ∀ k : Nat, (∀ j, j < k → (1 ≤ cnt.getD j 0 ↔ j < t)) → ((missing cnt 1 k).length : Int) = max ((k : Int) - t) 0
  | 0, _ => by simp [missing]; omega
  | k + 1, h => by
    have ih := missing_count k (fun j hj => h j (by omega))
    have hk := h k (by omega)
    rw [missing]
    split
    · rw [List.length_append]
      simp
      omega
    · simp
      omega

structure AllInv (h : AHeap) (K : Nat) (i : Int) (h2 : AHeap) (k : Nat) (cnt : List Int) : Prop where
  i : i = k
  size : h2.size = h.size + 1
  pick : Pick h2 h.size 0 K cnt
  cnt : ∀ j, j < K → 0 ≤ cnt.getD j 0 ∧ cnt.getD j 0 ≤ k ∧ (1 ≤ cnt.getD j 0 ↔ j < k)

theorem lawOccurAll (h : AHeap) (x0 : Int) (k0 : (RInt cfg.P .u8).ok x0) (x1 : Int) (k1 : (RInt cfg.P .u8).ok x1) : M_boulterlaw30_OccurAll h x0 x1 = some true := by
  have k0 : (0 : Int) ≤ x0 ∧ x0 ≤ 255 := k0
  have k1 : (0 : Int) ≤ x1 ∧ x1 ≤ 255 := k1
  obtain ⟨K, hK⟩ : ∃ K : Nat, (1 + x0 : Int) = K := ⟨(1 + x0).toNat, by omega⟩
  obtain ⟨T, hT⟩ : ∃ T : Nat, x1 = T := ⟨x1.toNat, by omega⟩
  have eK : IntKind.i64.wrap ((1 : Int) + IntKind.i64.wrap x0) = K := by rw [w64 (x := x0) (by omega) (by omega), w64 (by omega) (by omega), hK]
  have eT : IntKind.i64.wrap x1 = T := by rw [w64 (by omega) (by omega), hT]
  unfold M_boulterlaw30_OccurAll
  rw [eK, new_ok (by omega) (by omega)]
  simp only [Option.bind_some]
  rw [show (((0 : Int) != 0) || (some (h.size, 0) : Option (Nat × Nat)).isNone) = false from rfl]
  simp only [iteB_false]
  refine W.eq (W.bind (W.mono (Q := fun o => ∃ (h4 : AHeap) (cnt : List Int), o = .inl h4 ∧ AllInv h K T h4 T cnt) ?_ ?_))
  · refine W.loop (fun s => ∃ k cnt, AllInv h K s.1 s.2 k cnt ∧ k ≤ T) (fun s => T - s.1.toNat) ⟨0, zer, ⟨rfl, rfl, ⟨AHeap.get_push_new _ _, zer_length⟩, ?_⟩, by omega⟩ ?_
    · intro j hj
      have : zer.getD j 0 = 0 := by unfold zer; rw [List.getD_eq_getElem?_getD, List.getElem?_replicate]; split <;> rfl
      rw [this]; omega
    · rintro ⟨i, h2⟩ ⟨k, cnt, v, hkT⟩
      have v : AllInv h K i h2 k cnt := v
      have ei := v.i
      subst ei
      unfold M_boulterlaw30_OccurAll_L0
      dsimp only
      rw [eT, eK]
      refine W.iteP (fun hlt => ?_) (fun hge => ?_)
      · refine W.need (by simp; omega) ?_
        have er : Int.tmod (k : Int) (K : Int) = ((k % K : Nat) : Int) := by rw [Int.tmod_eq_emod_of_nonneg (by omega)]; rfl
        have hrK : k % K < K := Nat.mod_lt _ (by omega)
        have hle : k % K ≤ k := Nat.mod_le _ _
        have hcl : k % K < cnt.length := by rw [v.pick.2]; omega
        have hc := v.cnt _ hrK
        have hgd : cnt.getD (k % K) 0 = cnt[k % K] := by simp [List.getD_eq_getElem?_getD, List.getElem?_eq_getElem hcl]
        have hbump : bump cnt (k % K) = cnt.set (k % K) (cnt.getD (k % K) 0 + 1) := by unfold bump; rw [if_pos (by omega)]
        obtain ⟨h5, t1, t2, t3, t4⟩ := take_spec (g := ⟨h.size, []⟩) v.pick (may_ge (Nat.le_refl _)) (row := k % K) (by omega) (by omega) hc.1
        have sz2 : h2.size = h.size + 1 := v.size
        have ek : IntKind.i64.wrap ((k : Int) + 1) = ((k + 1 : Nat) : Int) := by rw [w64 (by omega) (by omega)]; omega
        rw [er, t1, ek]
        simp only [Option.bind_some, decide_true, Bool.true_or, Bool.not_true, bne_self_eq_false, Bool.or_false, iteB_false]
        refine W.ret ⟨⟨k + 1, _, ⟨rfl, by dsimp only; omega, t2, ?_⟩, by omega⟩, by dsimp only; omega⟩
        intro j hj
        have hv := v.cnt j hj
        rw [hbump]
        by_cases hjr : k % K = j
        · subst hjr
          have : (cnt.set (k % K) (cnt.getD (k % K) 0 + 1)).getD (k % K) 0 = cnt.getD (k % K) 0 + 1 := by simp [List.getD_eq_getElem?_getD, hcl]
          rw [this]
          omega
        · have : (cnt.set (k % K) (cnt.getD (k % K) 0 + 1)).getD j 0 = cnt.getD j 0 := by rw [List.getD_eq_getElem?_getD, List.getElem?_set_ne hjr, ← List.getD_eq_getElem?_getD]
          rw [this]
          have : j ≠ k := by
            intro e
            subst e
            exact hjr (Nat.mod_eq_of_lt hj)
          omega
      · have : k = T := by omega
        subst this
        exact W.ret ⟨h2, cnt, rfl, v⟩
  · rintro o ⟨h4, cnt, rfl, v⟩
    have sz2 : h4.size = h.size + 1 := v.size
    dsimp only
    refine W.bind (W.mono (missing_spec v.pick (by omega) (by simp; omega) rfl) ?_)
    rintro ⟨s', h5⟩ ⟨_, hn⟩
    dsimp only at hn ⊢
    have hcount := missing_count (cnt := cnt) (t := T) K (fun j hj => (v.cnt j hj).2.2)
    have e1 : (max (0 : Int) 1) = 1 := by omega
    rw [e1, Int.toNat_natCast] at hn
    have e2 : mx (IntKind.i64.wrap ((K : Int) - IntKind.i64.wrap x1)) 0 = max ((K : Int) - T) 0 := by
      rw [eT, w64 (by omega) (by omega)]
      unfold mx; omega
    rw [e2, hn, hcount]
    simp [M_boulterlaw30_awake]
    exact W.ret rfl
end Go.Abs.L
