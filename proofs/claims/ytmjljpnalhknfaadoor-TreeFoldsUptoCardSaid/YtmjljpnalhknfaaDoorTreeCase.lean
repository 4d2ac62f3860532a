/-
  TREE: what the tree in both cases matches.
-/
import Derived.Test.YtmjljpnalhknfaaDoorTreeFold
import Derived.Test.YtmjljpnalhknfaaDoorTreeMatch
namespace Go.Abs.L
open Go.Abs
set_option linter.unusedVariables false
set_option linter.unusedSimpArgs false

def oth (b : Nat) : Nat := if 97 ≤ b ||| 32 ∧ b ||| 32 ≤ 122 then b ^^^ 32 else b
theorem oth_oth : ∀ b : Fin 256, oth (oth b.val) = b.val := by decide +kernel
theorem oth_lt : ∀ b : Fin 256, oth b.val < 256 := by decide +kernel
theorem oth_far : ∀ b : Fin 256, b.val / 64 ≠ 1 → oth b.val = b.val := by decide +kernel
theorem oth_mid : ∀ i : Fin 64, oth (64 + i.val) = 64 + (if 1 ≤ i.val ∧ i.val ≤ 26 then i.val + 32 else if 33 ≤ i.val ∧ i.val ≤ 58 then i.val - 32 else i.val) := by decide +kernel
theorem up_bit : ∀ i : Fin 64, (134217726 : Nat).testBit i.val = decide (1 ≤ i.val ∧ i.val ≤ 26) := by decide +kernel
theorem lo_bit : ∀ i : Fin 64, (576460743713488896 : Nat).testBit i.val = decide (33 ≤ i.val ∧ i.val ≤ 58) := by decide +kernel
theorem other_eq (h : AHeap) {b : Nat} (hb : b < 256) : M_class_Other h (b : Int) = some (oth b : Int) := by
  unfold M_class_Other
  have : ∀ b : Fin 256, iteB ((decide ((bOr .u8 (b.val : Int) (32 : Int)) ≥ (97 : Int))) && (decide ((bOr .u8 (b.val : Int) (32 : Int)) ≤ (122 : Int)))) (some (bXor .u8 (b.val : Int) (32 : Int))) (some (b.val : Int)) = some (oth b.val : Int) := by decide +kernel
  exact this ⟨b, hb⟩
def othU (b : UInt8) : UInt8 := UInt8.ofNat (oth b.toNat)
theorem othU_nat (b : UInt8) : (othU b).toNat = oth b.toNat := by
  unfold othU
  have h := oth_lt ⟨b.toNat, b.toNat_lt⟩
  have : (UInt8.ofNat (oth b.toNat)).toNat = oth b.toNat % 256 := UInt8.toNat_ofNat'
  dsimp only at h
  omega
theorem othU_othU (b : UInt8) : othU (othU b) = b := by
  apply UInt8.toNat_inj.1
  rw [othU_nat, othU_nat]
  exact oth_oth ⟨b.toNat, b.toNat_lt⟩

theorem and_nat {a b : Nat} (ha : a < 2 ^ 64) (hb : b < 2 ^ 64) : bAnd .u64 (a : Int) (b : Int) = ((a &&& b : Nat) : Int) := by
  unfold bAnd
  show IntKind.u64.wrap ((BitVec.ofInt 64 a &&& BitVec.ofInt 64 b).toNat : Int) = _
  have e1 : (BitVec.ofInt 64 (a : Int)).toNat = a := by rw [BitVec.toNat_ofInt]; omega
  have e2 : (BitVec.ofInt 64 (b : Int)).toNat = b := by rw [BitVec.toNat_ofInt]; omega
  rw [BitVec.toNat_and, e1, e2]
  have hl : a &&& b < 2 ^ 64 := Nat.and_lt_two_pow _ hb
  show ((a &&& b : Nat) : Int) % 18446744073709551616 = _
  omega
theorem or_nat {a b : Nat} (ha : a < 2 ^ 64) (hb : b < 2 ^ 64) : bOr .u64 (a : Int) (b : Int) = ((a ||| b : Nat) : Int) := by
  unfold bOr
  show IntKind.u64.wrap ((BitVec.ofInt 64 a ||| BitVec.ofInt 64 b).toNat : Int) = _
  have e1 : (BitVec.ofInt 64 (a : Int)).toNat = a := by rw [BitVec.toNat_ofInt]; omega
  have e2 : (BitVec.ofInt 64 (b : Int)).toNat = b := by rw [BitVec.toNat_ofInt]; omega
  rw [BitVec.toNat_or, e1, e2]
  have hl : a ||| b < 2 ^ 64 := Nat.or_lt_two_pow ha hb
  show ((a ||| b : Nat) : Int) % 18446744073709551616 = _
  omega
theorem shl_nat {a : Nat} : bShl .u64 (a : Int) (32 : Int) = ((a * 2 ^ 32 % 2 ^ 64 : Nat) : Int) := by
  unfold bShl
  show ((a : Int) * (2 ^ 32 : Int)) % 18446744073709551616 = _
  omega
theorem foldV_nat {a : Nat} (ha : a < 2 ^ 64) : foldV (a : Int) = ((a ||| (((a &&& 134217726) * 2 ^ 32 % 2 ^ 64) ||| ((a &&& 576460743713488896) / 2 ^ 32)) : Nat) : Int) := by
  unfold foldV
  rw [show (134217726 : Int) = ((134217726 : Nat) : Int) from rfl, show (576460743713488896 : Int) = ((576460743713488896 : Nat) : Int) from rfl, and_nat ha (by decide), and_nat ha (by decide), shl_nat,
    show (32 : Int) = ((32 : Nat) : Int) from rfl, shrW (Int.natCast_nonneg _) (by omega), Int.toNat_natCast]
  have h1 : (a &&& 134217726) * 2 ^ 32 % 2 ^ 64 < 2 ^ 64 := Nat.mod_lt _ (by decide)
  have h2 : (a &&& 576460743713488896) / 2 ^ 32 < 2 ^ 64 := Nat.lt_of_le_of_lt (Nat.div_le_self _ _) (Nat.and_lt_two_pow _ (by decide))
  rw [or_nat h1 h2, or_nat ha (Nat.or_lt_two_pow h1 h2)]
theorem foldV_ok {x : Int} (k : OkW x) : OkW (foldV x) := by
  obtain ⟨a, rfl⟩ : ∃ a : Nat, x = a := ⟨x.toNat, by unfold OkW at k; omega⟩
  have ha : a < 2 ^ 64 := by unfold OkW at k; omega
  rw [foldV_nat ha]
  have h1 : (a &&& 134217726) * 2 ^ 32 % 2 ^ 64 < 2 ^ 64 := Nat.mod_lt _ (by decide)
  have h2 : (a &&& 576460743713488896) / 2 ^ 32 < 2 ^ 64 := Nat.lt_of_le_of_lt (Nat.div_le_self _ _) (Nat.and_lt_two_pow _ (by decide))
  have := Nat.or_lt_two_pow ha (Nat.or_lt_two_pow h1 h2)
  unfold OkW
  omega
theorem foldV_bit {a : Nat} (ha : a < 2 ^ 64) {i : Nat} (hi : i < 64) : (foldV (a : Int)).toNat.testBit i = (a.testBit i || a.testBit (oth (64 + i) - 64)) := by
  rw [foldV_nat ha, Int.toNat_natCast, Nat.testBit_or, Nat.testBit_or, Nat.testBit_mod_two_pow, Nat.testBit_mul_two_pow, Nat.testBit_div_two_pow, Nat.testBit_and, Nat.testBit_and]
  have e := oth_mid ⟨i, hi⟩
  dsimp only at e
  rw [e]
  have hu := up_bit ⟨i - 32, by omega⟩
  dsimp only at hu
  rw [hu]
  by_cases h1 : i + 32 < 64
  · have hlo := lo_bit ⟨i + 32, h1⟩
    dsimp only at hlo
    rw [hlo]
    by_cases c : 1 ≤ i ∧ i ≤ 26
    · rw [if_pos c, decide_eq_true (show 33 ≤ i + 32 ∧ i + 32 ≤ 58 by omega), decide_eq_false (show ¬ 32 ≤ i by omega), show 64 + (i + 32) - 64 = i + 32 from by omega]
      simp
    · rw [if_neg c, if_neg (by omega), decide_eq_false (show ¬ (33 ≤ i + 32 ∧ i + 32 ≤ 58) by omega), show 64 + i - 64 = i from by omega, decide_eq_false (show ¬ 32 ≤ i by omega)]
      simp
  · have : a.testBit (i + 32) = false := Nat.testBit_lt_two_pow (Nat.lt_of_lt_of_le ha (Nat.pow_le_pow_right (by omega) (by omega)))
    rw [this, decide_eq_true (show 32 ≤ i by omega), if_neg (by omega)]
    by_cases c : 33 ≤ i ∧ i ≤ 58
    · rw [if_pos c, decide_eq_true (show 1 ≤ i - 32 ∧ i - 32 ≤ 26 by omega), show 64 + (i - 32) - 64 = i - 32 from by omega]
      simp [hi]
    · rw [if_neg c, decide_eq_false (show ¬ (1 ≤ i - 32 ∧ i - 32 ≤ 26) by omega), show 64 + i - 64 = i from by omega]
      simp
theorem hasB_bit (n : Nd) (b : Nat) : hasB n b = ((wordsN n).getD (b / 64) 0).toNat.testBit (b % 64) := by
  unfold hasB
  rw [Nat.testBit_eq_decide_div_mod_eq, Bool.eq_iff_iff]
  simp
theorem hasB_fold {n : Nd} (ok : OkS n) {b : Nat} (hb : b < 256) : hasB (foldN n) b = (hasB n b || hasB n (oth b)) := by
  by_cases hm : b / 64 = 1
  · have e := oth_mid ⟨b % 64, by omega⟩
    dsimp only at e
    have eb : 64 + b % 64 = b := by omega
    have ho : oth b / 64 = 1 ∧ oth b % 64 = oth (64 + b % 64) - 64 := by
      rw [eb] at e ⊢
      rw [e]
      split
      · omega
      · split <;> omega
    have k1 : OkW n.s1 := ok n.s1 (by simp [wordsN])
    unfold OkW at k1
    have := foldV_bit (a := n.s1.toNat) (by omega) (i := b % 64) (by omega)
    rw [Int.toNat_of_nonneg k1.1] at this
    rw [hasB_bit, hasB_bit, hasB_bit, hm, ho.1, ho.2]
    exact this
  · rw [oth_far ⟨b, hb⟩ hm, Bool.or_self, hasB_bit, hasB_bit]
    have : (wordsN (foldN n)).getD (b / 64) 0 = (wordsN n).getD (b / 64) 0 := by
      have h4 : b / 64 = 0 ∨ b / 64 = 2 ∨ b / 64 = 3 := by omega
      rcases h4 with h | h | h <;> rw [h] <;> rfl
    rw [this]
theorem hasB_oth {n : Nd} (ok : OkS n) (b : UInt8) : hasB (foldN n) (othU b).toNat = hasB (foldN n) b.toNat := by
  have h1 := oth_lt ⟨b.toNat, b.toNat_lt⟩
  have h2 := oth_oth ⟨b.toNat, b.toNat_lt⟩
  dsimp only at h1 h2
  rw [othU_nat, hasB_fold ok h1, h2, hasB_fold ok b.toNat_lt, Bool.or_comm]
theorem okS_fold {n : Nd} (ok : OkS n) : OkS (foldN n) := by
  intro w hw
  simp only [wordsN, foldN, List.mem_cons, List.not_mem_nil, or_false] at hw
  rcases hw with rfl | rfl | rfl | rfl
  · exact ok _ (by simp [wordsN])
  · exact foldV_ok (ok _ (by simp [wordsN]))
  · exact ok _ (by simp [wordsN])
  · exact ok _ (by simp [wordsN])
theorem map_get {ns : List Nd} {a : Nat} {n : Nd} (h : ns[a]? = some n) : (ns.map foldN)[a]? = some (foldN n) := by rw [List.getElem?_map, h]; rfl
theorem map_get' {ns : List Nd} {a : Nat} {m : Nd} (h : (ns.map foldN)[a]? = some m) : ∃ n, ns[a]? = some n ∧ m = foldN n := by
  rw [List.getElem?_map, Option.map_eq_some_iff] at h
  obtain ⟨n, h1, h2⟩ := h
  exact ⟨n, h1, h2.symm⟩
theorem mt_fold {ns : List Nd} (oks : ∀ n ∈ ns, OkS n) {s : List UInt8} {a : Nat} {t : Int} {i j : Nat} (m : Mt ns s a t i j) : Mt (ns.map foldN) s a t i j := by
  induction m with
  | empty h k => exact .empty (map_get h) k
  | one h k hb hh => exact .one (map_get h) k hb (by rw [hasB_fold (oks _ (List.mem_of_getElem? h)) (UInt8.toNat_lt _), hh]; rfl)
  | front h k => exact .front (map_get h) k
  | back h k => exact .back (map_get h) k
  | altL h k e _ ih => exact .altL (map_get h) k e ih
  | altR h k e _ ih => exact .altR (map_get h) k e ih
  | group h k e _ ih => exact .group (map_get h) k e ih
  | cat h k e1 e2 _ _ ih1 ih2 => exact .cat (map_get h) k e1 e2 ih1 ih2
  | repEnd h k e => exact .repEnd (map_get h) k e
  | repStep h k e h1 h2 _ _ ih1 ih2 => exact .repStep (map_get h) k e h1 h2 ih1 ih2
theorem mt_oth {ns : List Nd} (oks : ∀ n ∈ ns, OkS n) {s : List UInt8} {a : Nat} {t : Int} {i j : Nat} (m : Mt (ns.map foldN) s a t i j) : Mt (ns.map foldN) (s.map othU) a t i j := by
  induction m with
  | empty h k => exact .empty h k
  | one h k hb hh =>
    obtain ⟨n, hn, rfl⟩ := map_get' h
    exact .one h k (by rw [List.getElem?_map, hb]; rfl) (by rw [hasB_oth (oks n (List.mem_of_getElem? hn))]; exact hh)
  | front h k => exact .front h k
  | back h k =>
    have e : (s.map othU).length = s.length := List.length_map _
    rw [← e]; exact .back h k
  | altL h k e _ ih => exact .altL h k e ih
  | altR h k e _ ih => exact .altR h k e ih
  | group h k e _ ih => exact .group h k e ih
  | cat h k e1 e2 _ _ ih1 ih2 => exact .cat h k e1 e2 ih1 ih2
  | repEnd h k e => exact .repEnd h k e
  | repStep h k e h1 h2 _ _ ih1 ih2 => exact .repStep h k e h1 h2 ih1 ih2
theorem matchP_oth {ns : List Nd} (oks : ∀ n ∈ ns, OkS n) {s : List UInt8} {root i j : Int} : MatchP (ns.map foldN) root (s.map othU) i j ↔ MatchP (ns.map foldN) root s i j := by
  unfold MatchP
  rw [List.length_map]
  constructor
  · rintro ⟨h1, h2, h3, h4, h5⟩
    refine ⟨h1, h2, h3, h4, ?_⟩
    have := mt_oth oks h5
    rw [List.map_map] at this
    have e : s.map (othU ∘ othU) = s := by rw [show othU ∘ othU = id from funext othU_othU, List.map_id]
    rw [e] at this
    exact this
  · rintro ⟨h1, h2, h3, h4, h5⟩
    exact ⟨h1, h2, h3, h4, mt_oth oks h5⟩
theorem may_fold {n : Nd} {c : Int} (h : mayF n c = true) : mayF (foldN n) c = true := by
  rw [mayF_iff] at h ⊢
  have z : foldV 0 = 0 := by decide +kernel
  obtain ⟨h1, h2, h3, h4, h5, h6, h7, h8⟩ := h
  refine ⟨h1, h2, h3, h4, h5, h6, fun hk => ?_, h8⟩
  obtain ⟨e0, e1, e2, e3⟩ := h7 hk
  refine ⟨e0, ?_, e2, e3⟩
  show foldV n.s1 = 0
  rw [e1, z]
theorem matchP_fold {ns : List Nd} (oks : ∀ n ∈ ns, OkS n) {s : List UInt8} {root i j : Int} (h : MatchP ns root s i j) : MatchP (ns.map foldN) root s i j := by
  obtain ⟨⟨r1, r2, r3, r4⟩, h2, h3, h4, h5⟩ := h
  refine ⟨⟨by rw [List.length_map]; exact r1, r2, by rw [List.length_map]; exact r3, fun i m hm => ?_⟩, h2, h3, h4, mt_fold oks h5⟩
  obtain ⟨n, hn, rfl⟩ := map_get' hm
  exact may_fold (r4 i n hn)
end Go.Abs.L
