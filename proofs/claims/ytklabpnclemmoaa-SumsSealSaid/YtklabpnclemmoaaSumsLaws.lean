/-
  SUMS: the laws: plain Lean, no program in sight.
-/
import Derived.Test.YtklabpnclemmoaaLlaw03
import Derived.Test.YtklabpnclemmoaaLlaw03x1
import Derived.Test.YtklabpnclemmoaaSums
namespace Go.Abs.L
open Go.Abs
set_option linter.unusedVariables false
set_option linter.unusedSimpArgs false

theorem szByte : szOf cfg.P 5 = some 1 := by kernel_rfl
theorem set_same_len {l : List UInt8} {i : Nat} {b : UInt8} : (l.set i b).length = l.length := by simp
/-- a block is of 512 bytes -/
theorem block_eq (h : AHeap) (s f : List UInt8) : ∃ b : List UInt8, b.length = 512 ∧ M_boulterlaw03_block h s f = some b := by
  have key : W (M_boulterlaw03_block h s f) fun b => b.length = 512 := by
    unfold M_boulterlaw03_block
    rw [show (512 : Int) = ((512 : Nat) : Int) from rfl, mkL_byte (by omega)]
    simp only [Option.bind_some, Int.toNat_natCast]
    refine W.bind (W.mono (Q := fun h5 => ∃ l : List UInt8, l.length = 512 ∧ h5.get h.size = some (.cells (some 5) 2 (byt l))) ?_ ?_)
    · refine W.loop (fun st => ∃ (i : Nat) (l : List UInt8), st.1 = i ∧ i ≤ 512 ∧ l.length = 512 ∧ st.2.get h.size = some (.cells (some 5) 2 (byt l))) (fun st => 512 - st.1.toNat) ⟨0, _, rfl, by omega, List.length_replicate, AHeap.get_push_new _ _⟩ ?_
      rintro ⟨_, h2⟩ ⟨i, l, rfl, hi, hl, hg⟩
      dsimp only at hg
      have z2 := h2.lt_of_get hg
      unfold M_boulterlaw03_block_L0
      dsimp only
      have e512 : (((512 : Int).toNat : Nat) : Int) = 512 := rfl
      rw [e512]
      refine W.iteP (fun hlt => ?_) (fun hge => W.ret ⟨l, hl, hg⟩)
      have hlt : i < 512 := by omega
      rw [ek64 (by omega)]
      refine W.bind (W.mono (Q := fun h4 => ∃ l : List UInt8, l.length = 512 ∧ h4.get h.size = some (.cells (some 5) 2 (byt l))) ?_ ?_)
      · refine W.iteP (fun hp => ?_) (fun hp => W.ret ⟨l, hl, hg⟩)
        refine W.need (bne_iff_ne.2 (by omega)) ?_
        have hm : i % s.length < s.length := Nat.mod_lt _ (by omega)
        have e1 : Int.tmod (i : Int) (s.length : Int) = ((i % s.length : Nat) : Int) := by rw [Int.tmod_eq_emod_of_nonneg (by omega)]; rfl
        rw [e1, ixS_nat (List.getElem?_eq_getElem hm)]
        simp only [Option.bind_some]
        have e2 : ixL ⟨some (h.size, 0), (512 : Int).toNat⟩ 1 (i : Int) = some (h.size, 0 + i * 1) := ixL_nat hlt
        rw [e2]
        simp only [Option.bind_some]
        rw [byt_st hg (may_ge (Nat.le_refl _)) (by omega) (byte_lt _)]
        simp only [Option.bind_some]
        exact W.ret ⟨_, by simp [hl], AHeap.get_set_same _ _ z2⟩
      · rintro h4 ⟨l', hl', hg'⟩
        exact W.ret ⟨⟨i + 1, l', rfl, by omega, hl', hg'⟩, by dsimp only; omega⟩
    · rintro h5 ⟨l, hl, hg⟩
      have z5 := h5.lt_of_get hg
      have es : subL cfg.P h5 ⟨some (h.size, 0), 512⟩ 1 (some 148) (some 156) = some ⟨some (h.size, 148), 8⟩ := by
        unfold subL
        simp only [hg, szByte, if_true]
        rw [bnd_both (by omega)]; rfl
      rw [es]
      simp only [Option.bind_some]
      have ef : firstA h5 1 (min f.length 8) (.str f) = some (byt (f.take (min f.length 8))) := rfl
      unfold cpy
      simp only [ef]
      by_cases h0 : min f.length 8 = 0
      · rw [if_pos h0]
        simp only [Option.bind_some]
        rw [byL_byt hg (by simp) hl.symm]
        exact W.ret hl
      · rw [if_neg h0]
        have hst := st_of (g := (⟨h.size, []⟩ : Gd)) (o := 148) hg (may_ge (Nat.le_refl _)) (new := byt (f.take (min f.length 8))) (by simp; omega) (byt_one _)
        unfold st at hst
        rw [hst]
        have hsp : splice (byt l) 148 (byt (f.take (min f.length 8))) = byt (l.take 148 ++ (f.take (min f.length 8) ++ l.drop (148 + (f.take (min f.length 8)).length))) := by
          unfold splice
          simp only [byt_app, byt_length]
          simp [byt, List.map_take, List.map_drop]
        have hlen : (l.take 148 ++ (f.take (min f.length 8) ++ l.drop (148 + (f.take (min f.length 8)).length))).length = 512 := by simp; omega
        rw [hsp]
        simp only [Option.map_some, Option.bind_some]
        rw [byL_byt (AHeap.get_set_same _ _ z5) (by simp) hlen.symm]
        exact W.ret hlen
  obtain ⟨b, e, hb⟩ := key
  exact ⟨b, hb, e⟩

theorem awake3 (h : AHeap) : M_boulterlaw03_awake h = some true := by
  have hz : (List.replicate 512 (0 : UInt8)).length = 512 := List.length_replicate
  have e1 : sumAt false 0 (List.replicate 512 0) = 256 := by decide +kernel
  have e2 : rightF (List.replicate 512 0) = false := by decide +kernel
  have e3 : decide ((∀ b ∈ List.replicate 512 (0 : UInt8), b = 0) ∧ (List.replicate 512 (0 : UInt8)).length = 512) = true := decide_eq_true ⟨fun b hb => List.eq_of_mem_replicate hb, hz⟩
  have hb : ∀ h : AHeap, byL (h.push (.cells (some 5) 2 (byt (List.replicate 512 0)))) ⟨some (h.size, 0), 512⟩ = some (List.replicate 512 0) := fun h => byL_byt (AHeap.get_push_new _ _) (by simp) hz.symm
  unfold M_boulterlaw03_awake
  rw [show (512 : Int) = ((512 : Nat) : Int) from rfl, mkL_byte (by omega)]
  simp only [Option.bind_some, Int.toNat_natCast, hb, sum_eq, if_pos hz, e1, blank_eq _ (List.replicate 512 0) (by rw [hz]; omega), e3, right_eq, e2]
  rfl

theorem lawSumsTell (h : AHeap) (x0 : List UInt8) (k0 : (RStr cfg.P).ok x0) (x1 : List UInt8) (k1 : (RStr cfg.P).ok x1) : M_boulterlaw03_SumsTell h x0 x1 = some true := by
  obtain ⟨b, hb, eb⟩ := block_eq h x0 x1
  unfold M_boulterlaw03_SumsTell
  rw [eb]
  simp only [Option.bind_some, sum_eq, signed_eq, if_pos hb, rsum_eq h b _ hb, right_eq, rright_eq, awake3, seal_eq, bne_self_eq_false, Bool.or_false, iteB_false, beq_self_eq_true, Bool.not_true]
  by_cases hc : x0.length > 600 ∨ x0.length = 512
  · rw [show (decide ((x0.length : Int) > 600) || ((x0.length : Int) == 512)) = true from by simp; omega]; rfl
  · have hn : ¬ x0.length = 512 := by omega
    have er : rightF x0 = false := by unfold rightF; rw [if_neg hn]
    rw [show (decide ((x0.length : Int) > 600) || ((x0.length : Int) == 512)) = false from by rw [Bool.eq_false_iff]; simp; omega]
    simp only [if_neg hn, er, blank_eq h x0 (by omega), decide_eq_false (fun hx : (∀ b ∈ x0, b = 0) ∧ x0.length = 512 => hn hx.2)]
    rfl
theorem blank_seal {l : List UInt8} (hl : l.length = 512) : decide ((∀ b ∈ sealF l, b = 0) ∧ (sealF l).length = 512) = false := by
  refine decide_eq_false fun hx => ?_
  have hs := sum_range hl
  have hmem : dg (sumAt false 0 l / 8 ^ 5) ∈ sealF l := by
    unfold sealF
    refine List.mem_append_right _ (List.mem_append_left _ (List.mem_append_left _ ?_))
    rw [octD]; simp
  have := hx.1 _ hmem
  have e := dg_toNat (sumAt false 0 l / 8 ^ 5)
  rw [this] at e
  have : ((0 : UInt8).toNat : Int) = 0 := rfl
  omega
theorem lawSumsSeal (h : AHeap) (x0 : List UInt8) (k0 : (RStr cfg.P).ok x0) (x1 : List UInt8) (k1 : (RStr cfg.P).ok x1) : M_boulterlaw03_SumsSeal h x0 x1 = some true := by
  obtain ⟨b, hb, eb⟩ := block_eq h x0 x1
  have hs := sealF_length hb
  unfold M_boulterlaw03_SumsSeal
  rw [eb]
  simp only [Option.bind_some, seal_eq, if_pos hb, if_pos hs, seal_seal hb, rseal_eq h b hb, right_eq, right_seal hb, blank_eq h (sealF b) (by omega), blank_seal hb, awake3, beq_self_eq_true, iteB_true, Bool.and_self, Bool.not_false]
theorem lawSumsSpoilt (h : AHeap) (x0 : List UInt8) (k0 : (RStr cfg.P).ok x0) (x1 : Int) (k1 : (RInt cfg.P .u16).ok x1) (x2 : Int) (k2 : (RInt cfg.P .u8).ok x2) : M_boulterlaw03_SumsSpoilt h x0 x1 x2 = some true := by
  have k1 : (0 : Int) ≤ x1 ∧ x1 ≤ 65535 := k1
  have k2 : (0 : Int) ≤ x2 ∧ x2 ≤ 255 := k2
  obtain ⟨b, hb, eb⟩ := block_eq h x0 []
  have hs := sealF_length hb
  obtain ⟨i, hi⟩ : ∃ i : Nat, x1 % 512 = i := ⟨(x1 % 512).toNat, by omega⟩
  have ei : Int.tmod (IntKind.i64.wrap x1) 512 = i := by rw [w64 (by omega) (by omega), Int.tmod_eq_emod_of_nonneg k1.1, hi]
  unfold M_boulterlaw03_SumsSpoilt
  rw [eb, ei]
  obtain ⟨t, ht⟩ : ∃ t, t = sealF b := ⟨_, rfl⟩
  simp only [Option.bind_some, seal_eq, if_pos hb, awake3, ← ht]
  rw [← ht] at hs
  rw [show (((0 : Int) != 0) || ((t.length : Int) != 512)) = false from by simp; omega]
  simp only [iteB_false]
  by_cases hc : (148 ≤ i ∧ i < 156) ∨ x2 = 0
  · rw [show ((decide ((i : Int) ≥ 148) && decide ((i : Int) < 156)) || (x2 == 0)) = true from by simp; omega]; rfl
  · rw [show ((decide ((i : Int) ≥ 148) && decide ((i : Int) < 156)) || (x2 == 0)) = false from by rw [Bool.eq_false_iff]; simp; omega]
    have hil : i < t.length := by omega
    have hti := byte_lt t[i]
    simp only [iteB_false]
    refine W.eq (W.need (by simp; omega) ?_)
    have g1 : (h.push (.cells (some 5) 2 (byt t))).get h.size = some (.cells (some 5) 2 (byt t)) := AHeap.get_push_new _ _
    have eby : (t.map fun b => AVal.int .u8 b.toNat) = byt t := rfl
    rw [eby, ixL_nat hil]
    simp only [Option.bind_some]
    have l1 : ldI (h.push (.cells (some 5) 2 (byt t))) (h.size, 0 + i * 1) .u8 = some (t[i].toNat : Int) := by
      rw [Nat.mul_one, Nat.zero_add]
      exact ldI_of g1 (by simp) (by simp [byt, hil])
    obtain ⟨c, hc'⟩ : ∃ c : Int, c = IntKind.u8.wrap ((t[i].toNat : Int) + x2) := ⟨_, rfl⟩
    have hcr : 0 ≤ c ∧ c ≤ 255 ∧ c ≠ t[i].toNat := by rw [hc', IntKind.wrap_u8]; omega
    rw [l1]
    simp only [Option.bind_some, ← hc']
    rw [byt_st g1 (may_ge (Nat.le_refl _)) hil ⟨hcr.1, hcr.2.1⟩]
    simp only [Option.bind_some]
    obtain ⟨x, hx⟩ : ∃ x, x = t.set i (UInt8.ofNat c.toNat) := ⟨_, rfl⟩
    have hxl : x.length = 512 := by rw [hx]; simp [hs]
    rw [← hx, byL_byt (AHeap.get_set_same _ _ (AHeap.lt_of_get _ g1)) (by simp) (hs.trans hxl.symm)]
    simp only [Option.bind_some, right_eq, rright_eq, rsum_eq _ x _ hxl, rsum_eq _ t _ hs, beq_self_eq_true, iteB_true]
    have hct : ((UInt8.ofNat c.toNat).toNat : Int) = c := by rw [UInt8.toNat_ofNat', Nat.mod_eq_of_lt (by omega)]; omega
    have hsum : sumAt false 0 x = sumAt false 0 t + c - t[i].toNat := by rw [hx, sumAt_set t 0 i _ hil (by omega), hct]
    have hts : sumAt false 0 t = sumAt false 0 b := by rw [ht]; exact sum_seal hb false
    have hsr := sum_range hb
    have hne : ∀ j, 148 ≤ j → j < 156 → x[j]? = t[j]? := fun j h1 h2 => by rw [hx, List.getElem?_set_ne (by omega)]
    have hfield : (x.drop 148).take 8 = octD (sumAt false 0 b) 6 ++ [0, 32] := by
      rw [← field_seal hb, ← ht]
      apply List.ext_getElem?
      intro j
      rw [List.getElem?_take, List.getElem?_take]
      split
      · rw [List.getElem?_drop, List.getElem?_drop]; exact hne _ (by omega) (by omega)
      · rfl
    have h148 : x.getD 148 0 = dg (sumAt false 0 b / 8 ^ 5) := by
      rw [← get_seal hb, ← ht, List.getD_eq_getElem?_getD, hne 148 (by omega) (by omega), ← List.getD_eq_getElem?_getD]
    have er : rightF x = (sumAt true 0 x == sumAt false 0 t) := by
      unfold rightF
      rw [if_pos hxl, h148, if_neg (by rw [dg_toNat]; omega), hfield, read_field (by omega), Bool.eq_iff_iff]
      simp
      omega
    rw [er]
    simp
    exact W.ret rfl
end Go.Abs.L
