/-
  TREE: the bytes of a set; which nodes may stand, by the document's words.
-/
import Derived.Test.YtmjljpnalhknfaaDoorTreeAdd
import Derived.Test.YtmjljpnalhknfaaDoorLclass
import Derived.Test.YtmjljpnalhknfaaDoorLref18
namespace Go.Abs.L
open Go.Abs
set_option linter.unusedVariables false
set_option linter.unusedSimpArgs false

def setC (n : Nd) : List AVal := [.int .u64 n.s0, .int .u64 n.s1, .int .u64 n.s2, .int .u64 n.s3]
def wordsN (n : Nd) : List Int := [n.s0, n.s1, n.s2, n.s3]
def OkW (w : Int) : Prop := 0 ≤ w ∧ w ≤ 18446744073709551615
def OkS (n : Nd) : Prop := ∀ w ∈ wordsN n, OkW w
def hasB (n : Nd) (b : Nat) : Bool := (((wordsN n).getD (b / 64) 0).toNat / 2 ^ (b % 64)) % 2 == 1
theorem and63 : ∀ b : Fin 256, bAnd .u8 ((b.val : Nat) : Int) 63 = ((b.val % 64 : Nat) : Int) := by decide +kernel
theorem and1 {v : Int} (h : OkW v) : bAnd .u64 v 1 = v % 2 := by
  obtain ⟨h0, h1⟩ := h
  unfold bAnd
  have e1 : (BitVec.ofInt 64 v).toNat = v.toNat := by rw [BitVec.toNat_ofInt]; omega
  show IntKind.u64.wrap ((BitVec.ofInt 64 v &&& BitVec.ofInt 64 1).toNat : Int) = _
  rw [BitVec.toNat_and, e1, show (BitVec.ofInt 64 1).toNat = 2 ^ 1 - 1 from rfl, Nat.and_two_pow_sub_one_eq_mod]
  have : IntKind.u64.wrap ((v.toNat % 2 ^ 1 : Nat) : Int) = ((v.toNat % 2 ^ 1 : Nat) : Int) % 18446744073709551616 := rfl
  rw [this]
  omega
theorem shr6 {b : Nat} : bShr .u8 (b : Int) 6 = ((b / 64 : Nat) : Int) := by
  unfold bShr
  show Int.fdiv (b : Int) (2 ^ 6) = _
  rw [fdiv_pos (by omega)]; omega
theorem shrW {w : Int} {i : Nat} (hw : 0 ≤ w) (hi : i < 64) : bShr .u64 w (i : Int) = ((w.toNat / 2 ^ i : Nat) : Int) := by
  unfold bShr
  rw [show min (Int.toNat (i : Int)) IntKind.u64.bits = i from by show min i 64 = i; omega, fdiv_pos (Int.le_of_lt (Int.pow_pos (by omega)))]
  have : ((w.toNat : Nat) : Int) = w := Int.toNat_of_nonneg hw
  rw [Int.natCast_ediv, this]
  simp
theorem has_eq (h : AHeap) (n : Nd) (ok : OkS n) {b : Nat} (hb : b < 256) : M_class_Set_Has h (setC n) (b : Int) = some (hasB n b) := by
  unfold M_class_Set_Has
  refine W.eq (W.need rfl ?_)
  simp only [Option.bind_some]
  rw [shr6, ixA_nat (by omega)]
  simp only [Option.bind_some]
  have hw : (wordsN n)[b / 64]? = some ((wordsN n).getD (b / 64) 0) := by
    rw [List.getD_eq_getElem?_getD, List.getElem?_eq_getElem (by simp [wordsN]; omega)]; rfl
  obtain ⟨w, ew⟩ : ∃ w, w = (wordsN n).getD (b / 64) 0 := ⟨_, rfl⟩
  rw [← ew] at hw
  have okw := ok w (List.mem_of_getElem? hw)
  have hl : ldI (h.push (.cells none 2 (setC n))) (h.size, 0 + b / 64 * 1) .u64 = some w := by
    refine ldI_of (AHeap.get_push_new _ _) (by simp) ?_
    rw [show 0 + b / 64 * 1 = b / 64 from by omega]
    have : setC n = (wordsN n).map (AVal.int .u64) := rfl
    rw [this, List.getElem?_map, hw]; rfl
  rw [hl]
  simp only [Option.bind_some]
  have e63 := and63 ⟨b, hb⟩
  dsimp only at e63
  rw [e63]
  refine W.need (decide_eq_true (Int.natCast_nonneg _)) ?_
  have hd : w.toNat / 2 ^ (b % 64) ≤ w.toNat := Nat.div_le_self _ _
  rw [shrW okw.1 (by omega), and1 ⟨Int.natCast_nonneg _, by unfold OkW at okw; omega⟩]
  refine W.ret ?_
  unfold hasB
  rw [← ew]
  generalize w.toNat / 2 ^ (b % 64) = q
  rw [Bool.eq_iff_iff, beq_iff_eq, beq_iff_eq]
  omega
def bytesN (n : Nd) : List UInt8 := ((List.range 256).filter (hasB n)).map UInt8.ofNat
def bytesK (n : Nd) (k : Nat) : List UInt8 := ((List.range k).filter (hasB n)).map UInt8.ofNat
theorem bytesK_succ (n : Nd) (k : Nat) : bytesK n (k + 1) = if hasB n k = true then bytesK n k ++ [UInt8.ofNat k] else bytesK n k := by
  unfold bytesK
  rw [List.range_succ, List.filter_append, List.map_append]
  by_cases h : hasB n k = true
  · rw [if_pos h, List.filter_cons_of_pos h]; rfl
  · rw [if_neg h, List.filter_cons_of_neg h]; simp
theorem bytesK_len (n : Nd) (k : Nat) : (bytesK n k).length ≤ k := by
  unfold bytesK
  rw [List.length_map]
  have := List.length_filter_le (hasB n) (List.range k)
  simpa using this
theorem own_bytes {g : Gd} {h : AHeap} {e : TypeId} {s : Sl} {l : List UInt8} (o : Own g h e 1 s (byt l)) : byL h s = some l := by
  have hn : s.n = l.length := by have := o.1; simp at this; omega
  rcases o.2.2 with ⟨hr, h0⟩ | ⟨id, rest, hr, hg, hm⟩
  · have hl : l = [] := List.length_eq_zero_iff.1 (by omega)
    obtain ⟨r, n⟩ := s
    dsimp only at hr hn
    subst hr; subst hl; subst hn
    rfl
  · obtain ⟨r, n⟩ := s
    dsimp only at hr hn
    subst hr
    unfold byL
    simp only [hg]
    by_cases h0 : n = 0
    · rw [if_pos h0]
      have : l = [] := List.length_eq_zero_iff.1 (by omega)
      rw [this]; rfl
    · rw [if_neg h0, cellsAt_of (by simp) (by simp; omega), List.drop_zero, List.take_append_of_le_length (by simp; omega), List.take_of_length_le (by simp; omega)]
      exact bytesOf_byt l
theorem bytes_eq (h : AHeap) (n : Nd) (ok : OkS n) : M_class_Set_Bytes h (setC n) = some (bytesN n) := by
  unfold M_class_Set_Bytes
  refine W.eq (W.need rfl ?_)
  simp only [Option.bind_some]
  refine W.bind (W.mono (Q := fun r => Own ⟨h.size, []⟩ r.2 5 1 r.1 (byt (bytesN n))) ?_ ?_)
  · refine W.loop (fun s => ∃ k : Nat, s.2.1 = k ∧ k ≤ 256 ∧ Own ⟨h.size, []⟩ s.2.2 5 1 s.1 (byt (bytesK n k)) ∧ s.2.2.get h.size = some (.cells none 2 (setC n)) ∧ (∀ i, s.1.id? = some i → h.size < i)) (fun s => 256 - s.2.1.toNat) ⟨0, rfl, by omega, Own.nil _ _ _ _, AHeap.get_push_new _ _, by simp [Sl.id?]⟩ ?_
    rintro ⟨s, _, h2⟩ ⟨k, rfl, hk, o, gs, fs⟩
    dsimp only at o gs fs
    have z2 := h2.lt_of_get gs
    unfold M_class_Set_Bytes_L0
    dsimp only
    refine W.iteP (fun hlt => ?_) (fun hge => ?_)
    · have hlt : k < 256 := by omega
      rw [show ldA h2 (h.size, 0) 4 = some (setC n) from by rw [ldA_of gs (by simp) (Nat.le_refl 4)]; rfl]
      have eu : IntKind.u8.wrap (k : Int) = (k : Int) := by
        have : IntKind.u8.wrap (k : Int) = (k : Int) % 256 := rfl
        rw [this]; omega
      simp only [Option.bind_some]
      rw [eu, has_eq h2 n ok hlt]
      simp only [Option.bind_some]
      rw [ek64 (by omega)]
      cases hb : hasB n k
      · simp only [iteB_false, Option.bind_some]
        exact W.ret ⟨⟨k + 1, rfl, by omega, by rw [bytesK_succ, if_neg (by simp [hb])]; exact o, gs, fs⟩, by dsimp only; omega⟩
      · simp only [iteB_true]
        have hp := o.keep (h' := h2.push (.cells (some 5) 2 [.int .u8 (k : Int)])) fun j hj => AHeap.get_push_old _ _ (o.lt hj)
        have hsn : s.n = (bytesK n k).length := by have := o.1; simp at this; omega
        have hkl := bytesK_len n k
        obtain ⟨s', h3, ea, oa, na, ka, ra, za⟩ := hp.app (bytes := 1) (n := 1) (x := .slice (some (h2.size, 0)) 1) (new := [.int .u8 (k : Int)]) (by
          unfold Abs.firstA
          simp only [Nat.one_ne_zero, if_false, AHeap.get_push_new]
          rw [cellsAt_of (by simp) (Nat.le_refl 1)]
          rfl) rfl rfl (by omega) (by omega) (by omega) (by simp; omega) (by simp)
        rw [ea]
        simp only [Option.bind_some]
        have r3 : s'.id? = some (h2.size + 1) := by simp [Sl.id?, ra]
        refine W.ret ⟨⟨k + 1, rfl, by omega, ?_, ?_, ?_⟩, by dsimp only; omega⟩
        · dsimp only
          rw [bytesK_succ, if_pos hb]
          have : byt (bytesK n k ++ [UInt8.ofNat k]) = byt (bytesK n k) ++ [.int .u8 (k : Int)] := by
            simp [byt]; omega
          rw [this]
          exact oa
        · dsimp only
          rw [ka.get h.size (by simp; omega) (fun hx => by have := fs _ hx.symm; omega), AHeap.get_push_old _ _ (by omega)]
          exact gs
        · intro i hi
          dsimp only at hi
          rw [r3] at hi
          have := Option.some.inj hi
          omega
    · have : k = 256 := by omega
      subst this
      exact W.ret o
  · rintro ⟨s, h6⟩ o
    dsimp only at o ⊢
    rw [own_bytes o]
    exact W.ret rfl
theorem zero_of_bits {w : Nat} (hw : w < 2 ^ 64) (h : ∀ i, i < 64 → (w / 2 ^ i % 2 == 1) = false) : w = 0 := by
  apply Nat.eq_of_testBit_eq
  intro i
  rw [Nat.zero_testBit]
  by_cases hi : i < 64
  · rw [Nat.testBit_eq_decide_div_mod_eq]
    have := h i hi
    simpa using this
  · exact Nat.testBit_lt_two_pow (Nat.lt_of_lt_of_le hw (Nat.pow_le_pow_right (by omega) (by omega)))
theorem bytes_nil {n : Nd} (ok : OkS n) : bytesN n = [] ↔ n.s0 = 0 ∧ n.s1 = 0 ∧ n.s2 = 0 ∧ n.s3 = 0 := by
  constructor
  · intro h
    have hb : ∀ b, b < 256 → hasB n b = false := by
      intro b hb
      have h' := List.map_eq_nil_iff.1 h
      rw [List.filter_eq_nil_iff] at h'
      simpa using h' b (by simpa using hb)
    have one : ∀ j, j < 4 → (wordsN n).getD j 0 = 0 := by
      intro j hj
      have okw : OkW ((wordsN n).getD j 0) := by
        rw [List.getD_eq_getElem?_getD, List.getElem?_eq_getElem (by simp [wordsN]; omega)]
        exact ok _ (List.getElem_mem _)
      unfold OkW at okw
      have := zero_of_bits (w := ((wordsN n).getD j 0).toNat) (by omega) fun i hi => by
        have := hb (64 * j + i) (by omega)
        unfold hasB at this
        rw [show (64 * j + i) / 64 = j from by omega, show (64 * j + i) % 64 = i from by omega] at this
        exact this
      omega
    exact ⟨one 0 (by omega), one 1 (by omega), one 2 (by omega), one 3 (by omega)⟩
  · rintro ⟨h0, h1, h2, h3⟩
    have hb : ∀ b, b < 256 → hasB n b = false := by
      intro b hb
      unfold hasB wordsN
      rw [h0, h1, h2, h3]
      have : b / 64 = 0 ∨ b / 64 = 1 ∨ b / 64 = 2 ∨ b / 64 = 3 := by omega
      rcases this with h | h | h | h <;> rw [h] <;> simp
    unfold bytesN
    rw [List.map_eq_nil_iff, List.filter_eq_nil_iff]
    intro b hm
    rw [hb b (by simpa using hm)]
    simp

/-! ### the document's 'may' -/
def refC (n : Nd) : List AVal := [.int .i64 n.k, .int .i64 n.a, .int .i64 n.b, .int .i64 n.mi, .int .i64 n.ma, .int .i64 n.gr, .str (bytesN n)]
def MayP (n : Nd) (c : Int) : Prop :=
  0 ≤ n.k ∧ n.k ≤ 7 ∧ (2 ≤ n.k ∧ n.k ≤ 5 → 0 ≤ n.a ∧ n.a < c) ∧ (¬ (2 ≤ n.k ∧ n.k ≤ 5) → n.a = 0) ∧ (n.k = 2 ∨ n.k = 3 → 0 ≤ n.b ∧ n.b < c) ∧ (¬ (n.k = 2 ∨ n.k = 3) → n.b = 0) ∧
  (n.k ≠ 1 → n.s0 = 0 ∧ n.s1 = 0 ∧ n.s2 = 0 ∧ n.s3 = 0) ∧ (n.k = 4 → 0 ≤ n.mi ∧ n.mi ≤ 255 ∧ -1 ≤ n.ma ∧ n.ma ≤ 255 ∧ (n.ma ≥ 0 → n.mi ≤ n.ma)) ∧ (n.k ≠ 4 → n.mi = 0 ∧ n.ma = 0) ∧ (n.k = 5 → 1 ≤ n.gr ∧ n.gr ≤ 1024) ∧ (n.k ≠ 5 → n.gr = 0)
theorem mayF_iff (n : Nd) (c : Int) : mayF n c = true ↔ MayP n c := by
  obtain ⟨k, a, b, mi, ma, gr, s0, s1, s2, s3⟩ := n
  unfold mayF MayP bareN inn
  dsimp only
  by_cases hk : k = 0 ∨ k = 6 ∨ k = 7
  · rw [if_pos hk, if_neg (by omega), if_neg (by omega), if_neg (by omega)]
    simp only [Nd.mk.injEq, true_and, and_true, Bool.true_and, Bool.and_true, decide_eq_true_eq]
    omega
  rw [if_neg hk]
  by_cases h1 : k = 1
  · rw [if_pos h1, if_neg (by omega), if_neg (by omega), if_neg (by omega)]
    simp only [Nd.mk.injEq, true_and, and_true, Bool.true_and, Bool.and_true, decide_eq_true_eq]
    omega
  rw [if_neg h1]
  by_cases h2 : k = 2 ∨ k = 3
  · rw [if_pos h2, if_pos h2]
    simp only [Nd.mk.injEq, true_and, and_true, Bool.true_and, Bool.and_eq_true, decide_eq_true_eq]
    omega
  rw [if_neg h2, if_neg h2]
  by_cases h4 : k = 4
  · rw [if_pos h4, if_pos h4]
    simp only [Nd.mk.injEq, true_and, and_true, Bool.true_and, Bool.and_eq_true, Bool.or_eq_true, decide_eq_true_eq]
    omega
  rw [if_neg h4, if_neg h4]
  by_cases h5 : k = 5
  · rw [if_pos h5, if_pos h5]
    simp only [Nd.mk.injEq, true_and, and_true, Bool.true_and, Bool.and_eq_true, Bool.or_eq_true, decide_eq_true_eq]
    omega
  rw [if_neg h5, if_neg h5]
  simp only [Bool.false_and]
  simp
  omega
theorem refMay_eq (h : AHeap) (n : Nd) (ok : OkS n) (c : Int) : M_boulterref18_May h (refC n) c = some (mayF n c) := by
  unfold M_boulterref18_May
  refine W.eq (W.need rfl ?_)
  simp only [Option.bind_some]
  obtain ⟨h1, e1⟩ : ∃ h1, h1 = h.push (.cells none 2 (refC n)) := ⟨_, rfl⟩
  have gn : h1.get h.size = some (.cells none 2 (refC n)) := by rw [e1, AHeap.get_push_new]
  rw [← e1]
  have l0 : ldI h1 (h.size, 0) .i64 = some n.k := ldI_of gn (by simp) rfl
  have l1 : ldI h1 (h.size, 1) .i64 = some n.a := ldI_of gn (by simp) rfl
  have l2 : ldI h1 (h.size, 2) .i64 = some n.b := ldI_of gn (by simp) rfl
  have l3 : ldI h1 (h.size, 3) .i64 = some n.mi := ldI_of gn (by simp) rfl
  have l4 : ldI h1 (h.size, 4) .i64 = some n.ma := ldI_of gn (by simp) rfl
  have l5 : ldI h1 (h.size, 5) .i64 = some n.gr := ldI_of gn (by simp) rfl
  have l6 : ldS h1 (h.size, 6) = some (bytesN n) := ldS_of gn (by simp) rfl
  simp only [l0, l1, l2, l3, l4, l5, l6, Option.bind_some, iteB_or, iteB_and]
  have hs : (bytesN n == []) = decide (n.s0 = 0 ∧ n.s1 = 0 ∧ n.s2 = 0 ∧ n.s3 = 0) := by
    rw [Bool.eq_iff_iff]; simpa using bytes_nil ok
  rw [hs]
  have no : ¬ MayP n c → false = mayF n c := fun hn => by
    symm; rw [Bool.eq_false_iff]; exact fun h => hn ((mayF_iff n c).1 h)
  have yes : MayP n c → true = mayF n c := fun hy => ((mayF_iff n c).2 hy).symm
  refine W.ite (fun hc => W.ret (no ?_)) (fun hc1 => ?_)
  · simp at hc; unfold MayP; omega
  refine W.ite (fun hc => W.ret (no ?_)) (fun hc2 => ?_)
  · simp only [Bool.or_eq_true, Bool.and_eq_true, decide_eq_true_eq, Bool.not_eq_true', bne_iff_ne, beq_iff_eq, Bool.or_eq_false_iff, Bool.and_eq_false_imp, decide_eq_false_iff_not, beq_eq_false_iff_ne] at hc
    unfold MayP; omega
  refine W.ite (fun hc => W.ret (no ?_)) (fun hc3 => ?_)
  · simp only [Bool.and_eq_true, bne_iff_ne, Bool.not_eq_true', decide_eq_false_iff_not] at hc
    unfold MayP; omega
  simp only [Bool.or_eq_false_iff, Bool.and_eq_false_imp, decide_eq_false_iff_not, Bool.and_eq_true, decide_eq_true_eq, Bool.or_eq_true, Bool.not_eq_true', Bool.not_eq_false', bne_eq_false_iff_eq, bne_iff_ne, beq_iff_eq, beq_eq_false_iff_ne, and_imp] at hc1 hc2 hc3
  refine W.bind (W.mono (Q := fun o => (∃ u, o = .inl u ∧ (n.k = 4 → 0 ≤ n.mi ∧ n.mi ≤ 255 ∧ -1 ≤ n.ma ∧ n.ma ≤ 255 ∧ (n.ma ≥ 0 → n.mi ≤ n.ma)) ∧ (n.k ≠ 4 → n.mi = 0 ∧ n.ma = 0)) ∨ (o = .inr false ∧ ¬ MayP n c)) ?_ ?_)
  · rw [iteB_beq]
    split
    · refine W.ite (fun hc => W.ret (.inr ⟨rfl, ?_⟩)) (fun hc => W.ret (.inl ⟨_, rfl, ?_⟩))
      · simp at hc; unfold MayP; omega
      · simp at hc; omega
    · refine W.ite (fun hc => W.ret (.inr ⟨rfl, ?_⟩)) (fun hc => W.ret (.inl ⟨_, rfl, ?_⟩))
      · simp only [Bool.or_eq_true, bne_iff_ne] at hc; unfold MayP; omega
      · simp at hc; omega
  · rintro o (⟨u, rfl, h4, h4'⟩ | ⟨rfl, hn⟩)
    · dsimp only
      rw [iteB_beq]
      split
      · refine W.ret ?_
        rw [Bool.eq_iff_iff, mayF_iff]
        simp only [Bool.and_eq_true, decide_eq_true_eq]
        unfold MayP
        omega
      · refine W.ret ?_
        rw [Bool.eq_iff_iff, mayF_iff]
        simp only [beq_iff_eq]
        unfold MayP
        omega
    · exact W.ret (no hn)
end Go.Abs.L
