/-
  RewriteParses: any text is the expression that the document says, or the place at which it isn't one.
-/
import Derived.Test.YtkdlmohhklimjaaGreatDoorRwB
namespace Go.Av.L
open Go.Av Go.Lib
set_option linter.unusedVariables false
set_option linter.unusedSimpArgs false

theorem dig_loop {s : List UInt8} (hs : s.length ≤ 200) : ∀ (n i : Nat), s.length < n + i → i ≤ s.length → loop (M_rewrite_Expr_flags_L1 s) (i : Int) = some ((digE s n i : Nat) : Int)
  | 0, i, h1, h2 => by omega
  | n + 1, i, h1, h2 => by
    unfold digE
    cases hb : s[i]? with
    | none =>
      have hi : ¬ i < s.length := fun h => by rw [List.getElem?_eq_getElem h] at hb; cases hb
      refine loop_end ?_
      unfold M_rewrite_Expr_flags_L1
      simp only []
      rw [iteB_dec, if_neg (by omega)]
      rfl
    | some b =>
      have hi := (List.getElem?_eq_some_iff.1 hb).1
      have hst : M_rewrite_Expr_flags_L1 s (i : Int) = if isD b then some (.inl ((i + 1 : Nat) : Int)) else some (.inr (i : Int)) := by
        unfold M_rewrite_Expr_flags_L1
        simp only []
        rw [iteB_dec, if_pos (by omega), ixS_nat hb]
        simp only [Option.bind_some, iteB_an]
        rw [isD_dec, iteB_dec, ek64 (by omega)]
      simp only []
      by_cases hd : isD b
      · rw [if_pos hd] at hst ⊢
        rw [loop_step hst]
        exact dig_loop hs n (i + 1) (by omega) (by omega)
      · rw [if_neg hd] at hst ⊢
        exact loop_end hst
theorem atoi_eq {t : List UInt8} (h0 : 0 < t.length) (h4 : t.length ≤ 4) (hd : ∀ b ∈ t, isD b) : M_strconv_Atoi t = some (val t) := by
  obtain ⟨b, r, rfl⟩ : ∃ b r, t = b :: r := by cases t with | nil => simp at h0 | cons b r => exact ⟨b, r, rfl⟩
  have hb := hd b (by simp)
  unfold isD at hb
  have l1 : loop (M_strconv_Atoi_2_L0 (b :: r)) ((0 : Int), (0 : Int)) = some (val (b :: r)) := by
    have key : ∀ n j, n + j = (b :: r).length → loop (M_strconv_Atoi_2_L0 (b :: r)) (val ((b :: r).take j), (j : Int)) = some (val (b :: r)) := by
      intro n
      induction n with
      | zero =>
        intro j hj
        refine loop_end ?_
        unfold M_strconv_Atoi_2_L0
        simp only []
        rw [iteB_dec, if_neg (by omega), List.take_of_length_le (Nat.le_of_eq (by omega))]
      | succ n ih =>
        intro j hj
        have hlt : j < (b :: r).length := by omega
        obtain ⟨c, hc⟩ : ∃ c, (b :: r)[j]? = some c := ⟨_, List.getElem?_eq_getElem hlt⟩
        have hcd := hd c (List.mem_of_getElem? hc)
        have hv := val_bd j ((b :: r).take j) (by rw [List.length_take]; omega) (fun x hx => hd x (List.mem_of_mem_take hx))
        have hv2 : (10 : Int) ^ j ≤ 10 ^ 4 := by
          rcases (by omega : j = 0 ∨ j = 1 ∨ j = 2 ∨ j = 3 ∨ j = 4) with rfl | rfl | rfl | rfl | rfl <;> decide
        have hv3 : (10 : Int) ^ 4 = 10000 := by decide
        unfold isD at hcd
        rw [loop_step (s' := (val ((b :: r).take (j + 1)), ((j + 1 : Nat) : Int)))]
        · exact ih (j + 1) (by omega)
        · unfold M_strconv_Atoi_2_L0
          simp only []
          rw [iteB_dec, if_pos (by omega), ixV_nat hc, Option.bind_some, wu8 (by omega) (by omega), iteB_dec, if_neg (by omega), ek64 (by omega), w64 (x := (c.toNat : Int) - 48) (by omega) (by omega), w64 (x := val (List.take j (b :: r)) * 10) (by omega) (by omega), w64 (by omega) (by omega), take_snoc hc, val_snoc]
    exact key (b :: r).length 0 (by omega)
  have hx0 : ixS (b :: r) 0 = some (b.toNat : Int) := ixS_head
  have h45 : ((b.toNat : Int) == 45) = false := (beqN b.toNat 45).trans (decide_eq_false (by omega))
  have h43 : ((b.toNat : Int) == 43) = false := (beqN b.toNat 43).trans (decide_eq_false (by omega))
  unfold M_strconv_Atoi M_strconv_Atoi_2
  rw [decide_eq_true (p := (0 : Int) < ((b :: r).length : Int)) (by omega), decide_eq_true (p := ((b :: r).length : Int) < 19) (by omega), Bool.and_self, iteB_true, hx0]
  simp only [Option.bind_some, h45, h43, iteB_false]
  rw [decide_eq_true (by omega), need_true, l1]
  rfl

theorem mfind_put (m : List (Int × Bool)) (k : Int) (v : Bool) (n : Int) : mfind (mput m k v) n = if n = k then some v else mfind m n := by
  induction m with
  | nil => simp only [mput, mfind]
  | cons p r ih =>
    obtain ⟨k', v'⟩ := p
    simp only [mput]
    by_cases hk : k = k'
    · rw [if_pos hk]
      simp only [mfind]
      by_cases hn : n = k
      · rw [if_pos hn, if_pos hn]
      · rw [if_neg hn, if_neg hn, if_neg (by rw [← hk]; exact hn)]
    · rw [if_neg hk]
      simp only [mfind]
      by_cases hn : n = k'
      · rw [if_pos hn, if_pos hn, if_neg (by rw [hn]; exact fun h => hk h.symm)]
      · rw [if_neg hn, if_neg hn, ih]
def SeenM (m : List (Int × Bool)) (seen : List Int) : Prop := ∀ k, (mfind m k).getD false = decide (k ∈ seen)
theorem SeenM.nil : SeenM [] [] := fun k => by simp [mfind]
theorem SeenM.put {m : List (Int × Bool)} {seen : List Int} (h : SeenM m seen) (k : Int) : SeenM (mput m k true) (seen ++ [k]) := fun n => by
  rw [mfind_put]
  by_cases hn : n = k
  · subst hn; simp
  · rw [if_neg hn, h n]; simp [hn]
abbrev PS := (List (Int × Bool)) × Bool × Bool × Bool × Int × Bool × Bool × Bool × Int
def afterF (m : List (Int × Bool)) (seen : List Int) (i : Nat) (f : Fl) : Option (Fl × Int × Nat) → PS ⊕ (((List (Int × Bool)) × Bool × Bool × Bool × Int × Bool × Bool × Bool) ⊕ PS)
  | none => .inr (.inr (m, f.g, f.f, f.x, f.n, f.nm, f.sf, f.hd, (i : Int)))
  | some (f', k, j) => if k ∈ seen then .inr (.inr (m, f'.g, f'.f, f'.x, f'.n, f'.nm, f'.sf, f'.hd, (i : Int))) else .inl (mput m k true, f'.g, f'.f, f'.x, f'.n, f'.nm, f'.sf, f'.hd, (j : Int))
theorem afterF_ok {m : List (Int × Bool)} {seen : List Int} (hm : SeenM m seen) {i : Nat} {f f' : Fl} {k : Int} {j : Nat} {e : Option (Fl × Int × Nat)} (he : e = some (f', k, j)) :
    iteB ((mfind m k).getD false) (some (.inr (.inr (m, f'.g, f'.f, f'.x, f'.n, f'.nm, f'.sf, f'.hd, (i : Int))))) (some (.inl (mput m k true, f'.g, f'.f, f'.x, f'.n, f'.nm, f'.sf, f'.hd, (j : Int)))) = some (afterF m seen i f e) := by
  subst he
  rw [hm k]
  unfold afterF
  by_cases hk : k ∈ seen
  · rw [decide_eq_true hk, iteB_true]; simp [hk]
  · rw [decide_eq_false hk, iteB_false]; simp [hk]
theorem notD {b : Nat} (h : ¬ (49 ≤ b ∧ b ≤ 57)) : (decide (b = 49) || (decide (b = 50) || (decide (b = 51) || (decide (b = 52) || (decide (b = 53) || (decide (b = 54) || (decide (b = 55) || (decide (b = 56) || decide (b = 57))))))))) = false := by
  simp only [Bool.or_eq_false_iff, decide_eq_false_iff_not]; omega
theorem yesD {b : Nat} (h : 49 ≤ b ∧ b ≤ 57) : (decide (b = 49) || (decide (b = 50) || (decide (b = 51) || (decide (b = 52) || (decide (b = 53) || (decide (b = 54) || (decide (b = 55) || (decide (b = 56) || decide (b = 57))))))))) = true := by
  simp only [Bool.or_eq_true, decide_eq_true_eq]; omega

theorem flags_step {s : List UInt8} (hs : s.length ≤ 200) {i : Nat} {b : UInt8} (hb : s[i]? = some b) (f : Fl) {m : List (Int × Bool)} {seen : List Int} (hm : SeenM m seen) :
    M_rewrite_Expr_flags_L0 s (m, f.g, f.f, f.x, f.n, f.nm, f.sf, f.hd, (i : Int)) = some (afterF m seen i f (act s i b.toNat f)) := by
  have hi := (List.getElem?_eq_some_iff.1 hb).1
  have e1 : IntKind.i64.wrap ((i : Int) + 1) = ((i + 1 : Nat) : Int) := wrap1 (n := 1) (by omega) (by omega)
  unfold M_rewrite_Expr_flags_L0
  simp only []
  rw [iteB_dec, if_pos (by omega), ixS_nat hb, Option.bind_some, e1]
  by_cases h103 : b.toNat = 103
  · obtain rfl := u8_of (by omega) h103
    exact bind_eq (x := .inl (true, f.f, f.x, f.n, f.nm, f.sf, f.hd, ((i + 1 : Nat) : Int), 103)) rfl (afterF_ok (f' := ⟨true, f.f, f.x, f.n, f.nm, f.sf, f.hd⟩) (k := 103) (j := i + 1) hm rfl)
  by_cases h105 : b.toNat = 105
  · obtain rfl := u8_of (by omega) h105
    exact bind_eq (x := .inl (f.g, true, f.x, f.n, f.nm, f.sf, f.hd, ((i + 1 : Nat) : Int), 105)) rfl (afterF_ok (f' := ⟨f.g, true, f.x, f.n, f.nm, f.sf, f.hd⟩) (k := 105) (j := i + 1) hm rfl)
  by_cases h120 : b.toNat = 120
  · obtain rfl := u8_of (by omega) h120
    exact bind_eq (x := .inl (f.g, f.f, true, f.n, f.nm, f.sf, f.hd, ((i + 1 : Nat) : Int), 120)) rfl (afterF_ok (f' := ⟨f.g, f.f, true, f.n, f.nm, f.sf, f.hd⟩) (k := 120) (j := i + 1) hm rfl)
  by_cases h114 : b.toNat = 114
  · obtain rfl := u8_of (by omega) h114
    exact bind_eq (x := .inl (f.g, f.f, f.x, f.n, true, f.sf, f.hd, ((i + 1 : Nat) : Int), 114)) rfl (afterF_ok (f' := ⟨f.g, f.f, f.x, f.n, true, f.sf, f.hd⟩) (k := 114) (j := i + 1) hm rfl)
  by_cases h82 : b.toNat = 82
  · obtain rfl := u8_of (by omega) h82
    exact bind_eq (x := .inl (f.g, f.f, f.x, f.n, false, f.sf, f.hd, ((i + 1 : Nat) : Int), 114)) rfl (afterF_ok (f' := ⟨f.g, f.f, f.x, f.n, false, f.sf, f.hd⟩) (k := 114) (j := i + 1) hm rfl)
  by_cases h115 : b.toNat = 115
  · obtain rfl := u8_of (by omega) h115
    exact bind_eq (x := .inl (f.g, f.f, f.x, f.n, f.nm, true, f.hd, ((i + 1 : Nat) : Int), 115)) rfl (afterF_ok (f' := ⟨f.g, f.f, f.x, f.n, f.nm, true, f.hd⟩) (k := 115) (j := i + 1) hm rfl)
  by_cases h83 : b.toNat = 83
  · obtain rfl := u8_of (by omega) h83
    exact bind_eq (x := .inl (f.g, f.f, f.x, f.n, f.nm, false, f.hd, ((i + 1 : Nat) : Int), 115)) rfl (afterF_ok (f' := ⟨f.g, f.f, f.x, f.n, f.nm, false, f.hd⟩) (k := 115) (j := i + 1) hm rfl)
  by_cases h104 : b.toNat = 104
  · obtain rfl := u8_of (by omega) h104
    exact bind_eq (x := .inl (f.g, f.f, f.x, f.n, f.nm, f.sf, true, ((i + 1 : Nat) : Int), 104)) rfl (afterF_ok (f' := ⟨f.g, f.f, f.x, f.n, f.nm, f.sf, true⟩) (k := 104) (j := i + 1) hm rfl)
  by_cases h72 : b.toNat = 72
  · obtain rfl := u8_of (by omega) h72
    exact bind_eq (x := .inl (f.g, f.f, f.x, f.n, f.nm, f.sf, false, ((i + 1 : Nat) : Int), 104)) rfl (afterF_ok (f' := ⟨f.g, f.f, f.x, f.n, f.nm, f.sf, false⟩) (k := 104) (j := i + 1) hm rfl)
  have q : ∀ n : Nat, ((b.toNat : Int) == (n : Int)) = decide (b.toNat = n) := fun n => beqN _ n
  have ha : act s i b.toNat f = if 49 ≤ b.toNat ∧ b.toNat ≤ 57 then
      if 4 < digE s (s.length + 1) (i + 1) - i then none else some ({ f with n := val ((s.drop i).take (digE s (s.length + 1) (i + 1) - i)) }, 49, digE s (s.length + 1) (i + 1))
      else none := by
    unfold act
    rw [if_neg h103, if_neg h105, if_neg h120, if_neg h114, if_neg h82, if_neg h115, if_neg h83, if_neg h104, if_neg h72]
  simp only [show ((b.toNat : Int) == 103) = decide (b.toNat = 103) from beqN b.toNat 103, show ((b.toNat : Int) == 105) = decide (b.toNat = 105) from beqN b.toNat 105, show ((b.toNat : Int) == 120) = decide (b.toNat = 120) from beqN b.toNat 120, show ((b.toNat : Int) == 114) = decide (b.toNat = 114) from beqN b.toNat 114, show ((b.toNat : Int) == 82) = decide (b.toNat = 82) from beqN b.toNat 82, show ((b.toNat : Int) == 115) = decide (b.toNat = 115) from beqN b.toNat 115, show ((b.toNat : Int) == 83) = decide (b.toNat = 83) from beqN b.toNat 83, show ((b.toNat : Int) == 104) = decide (b.toNat = 104) from beqN b.toNat 104, show ((b.toNat : Int) == 72) = decide (b.toNat = 72) from beqN b.toNat 72, show ((b.toNat : Int) == 49) = decide (b.toNat = 49) from beqN b.toNat 49, show ((b.toNat : Int) == 50) = decide (b.toNat = 50) from beqN b.toNat 50, show ((b.toNat : Int) == 51) = decide (b.toNat = 51) from beqN b.toNat 51, show ((b.toNat : Int) == 52) = decide (b.toNat = 52) from beqN b.toNat 52, show ((b.toNat : Int) == 53) = decide (b.toNat = 53) from beqN b.toNat 53, show ((b.toNat : Int) == 54) = decide (b.toNat = 54) from beqN b.toNat 54, show ((b.toNat : Int) == 55) = decide (b.toNat = 55) from beqN b.toNat 55, show ((b.toNat : Int) == 56) = decide (b.toNat = 56) from beqN b.toNat 56, show ((b.toNat : Int) == 57) = decide (b.toNat = 57) from beqN b.toNat 57]
  simp only [decide_eq_false h103, decide_eq_false h105, decide_eq_false h120, decide_eq_false h114, decide_eq_false h82, decide_eq_false h115, decide_eq_false h83, decide_eq_false h104, decide_eq_false h72, iteB_or, iteB_false, Option.bind_some, Bool.or_self]
  obtain ⟨d1, d2, d3⟩ := digE_spec (s := s) (s.length + 1) (i + 1) (by omega)
  by_cases hd : 49 ≤ b.toNat ∧ b.toNat ≤ 57
  · rw [if_pos hd] at ha
    rw [yesD hd, iteB_true, dig_loop hs (s.length + 1) (i + 1) (by omega) (by omega), Option.bind_some, iteB_dec, w64 (by omega) (by omega)]
    by_cases h4 : 4 < digE s (s.length + 1) (i + 1) - i
    · rw [if_pos h4] at ha
      rw [if_pos (by omega), ha]
      rfl
    · rw [if_neg h4] at ha
      rw [if_neg (by omega), subS_both (by omega) (by omega), Option.bind_some, atoi_eq (by simp; omega) (by simp; omega) (fun c hc => ?_), Option.bind_some, Option.bind_some]
      · exact afterF_ok (f' := ⟨f.g, f.f, f.x, val ((s.drop i).take (digE s (s.length + 1) (i + 1) - i)), f.nm, f.sf, f.hd⟩) (k := 49) (j := digE s (s.length + 1) (i + 1)) hm ha
      · obtain ⟨j, hj⟩ := List.getElem?_of_mem hc
        have hjl := (List.getElem?_eq_some_iff.1 hj).1
        simp only [List.length_take, List.length_drop] at hjl
        rw [List.getElem?_take, if_pos (by omega), List.getElem?_drop] at hj
        by_cases h0 : j = 0
        · subst h0
          rw [Nat.add_zero, hb] at hj
          cases hj
          exact ⟨by omega, by omega⟩
        · exact d3 (i + j) c (by omega) (by omega) hj
  · rw [if_neg hd] at ha
    rw [notD hd, iteB_false, ha]
    rfl

def PQ : Fl ⊕ Nat → ((List (Int × Bool)) × Bool × Bool × Bool × Int × Bool × Bool × Bool) ⊕ PS → Prop
  | .inl f, r => ∃ m, r = .inl (m, f.g, f.f, f.x, f.n, f.nm, f.sf, f.hd)
  | .inr k, r => ∃ m f', r = .inr (m, Fl.g f', f'.f, f'.x, f'.n, f'.nm, f'.sf, f'.hd, (k : Int))
theorem flags_loop {s : List UInt8} (hs : s.length ≤ 200) : ∀ (n i : Nat) (f : Fl) (m : List (Int × Bool)) (seen : List Int), s.length < n + i → i ≤ s.length → SeenM m seen →
    W (loop (M_rewrite_Expr_flags_L0 s) (m, f.g, f.f, f.x, f.n, f.nm, f.sf, f.hd, (i : Int))) (PQ (flagsG s n i f seen))
  | 0, i, f, m, seen, h1, h2, hm => by omega
  | n + 1, i, f, m, seen, h1, h2, hm => by
    unfold flagsG
    cases hb : s[i]? with
    | none =>
      have hi : ¬ i < s.length := fun h => by rw [List.getElem?_eq_getElem h] at hb; cases hb
      refine ⟨_, loop_end (r := .inl (m, f.g, f.f, f.x, f.n, f.nm, f.sf, f.hd)) ?_, m, rfl⟩
      unfold M_rewrite_Expr_flags_L0
      simp only []
      rw [iteB_dec, if_neg (by omega)]
    | some b =>
      have hi := (List.getElem?_eq_some_iff.1 hb).1
      have hst := flags_step hs hb f hm
      simp only []
      cases ha : act s i b.toNat f with
      | none =>
        rw [ha] at hst
        exact ⟨_, loop_end hst, m, f, rfl⟩
      | some x =>
        obtain ⟨f', k, j⟩ := x
        obtain ⟨a1, a2, a3⟩ := act_lt hi ha
        rw [ha] at hst
        simp only []
        unfold afterF at hst
        simp only [] at hst
        by_cases hk : k ∈ seen
        · rw [if_pos hk] at hst ⊢
          exact ⟨_, loop_end hst, m, f', rfl⟩
        · rw [if_neg hk] at hst ⊢
          rw [loop_step hst]
          exact flags_loop hs n j f' _ _ (by omega) a2 (hm.put k)
def zeroE : S_rewrite_Expr := ⟨[], [], false, false, false, 0, false, false, false⟩
def toR (e : S_rewrite_Expr) : S_boulterref24_Expr := ⟨e.Re, e.Template, e.Global, e.Fold, e.Extended, e.Number, e.Names, e.Soft, e.Hard⟩
theorem both {s : List UInt8} (hs : s.length ≤ 200) : ∃ e a r, M_rewrite_Parse s = some (e, a, r) ∧ M_boulterref24_Parse s = some (toR e, a, r) := by
  match s, hs with
  | [], _ => exact ⟨zeroE, 0, 11, rfl, rfl⟩
  | [a], _ => exact ⟨zeroE, 0, 11, rfl, rfl⟩
  | a :: b :: t, hs =>
    obtain ⟨s, es⟩ : ∃ s, s = a :: b :: t := ⟨_, rfl⟩
    have h0 : ixS s 0 = some (a.toNat : Int) := by rw [es]; exact ixS_head
    have h1 : ixS s 1 = some (b.toNat : Int) := ixS_nat (i := 1) (by rw [es]; rfl)
    have w1 : IntKind.i64.wrap (0 + 1) = 1 := by decide
    have hl : (2 : Int) ≤ s.length := by rw [es]; simp; omega
    rw [← es] at hs ⊢
    have q0 : ∀ n : Nat, ((a.toNat : Int) == (n : Int)) = decide (a.toNat = n) := fun n => beqN _ n
    have q1 : ∀ n : Nat, ((b.toNat : Int) == (n : Int)) = decide (b.toNat = n) := fun n => beqN _ n
    have hbeg : M_rewrite_begins s 0 = some (decide (a.toNat = 115 ∧ b.toNat ≠ 92 ∧ b.toNat ≠ 10)) := by
      unfold M_rewrite_begins
      rw [w1, decide_eq_true (by omega), iteB_true, h0]
      simp only [Option.bind_some, h1, bne, show ((a.toNat : Int) == 115) = decide (a.toNat = 115) from q0 115, show ((b.toNat : Int) == 92) = decide (b.toNat = 92) from q1 92, show ((b.toNat : Int) == 10) = decide (b.toNat = 10) from q1 10, iteB_an]
      by_cases c1 : a.toNat = 115 <;> by_cases c2 : b.toNat = 92 <;> by_cases c3 : b.toNat = 10 <;> simp [c1, c2, c3]
    have hrb : ∀ X Y : Option (S_boulterref24_Expr × Int × Int), ((iteB (decide ((s.length : Int) < (2 : Int))) (some true) ((ixS s (0 : Int)).bind fun x2 => some (x2 != (115 : Int))) : Option (Bool)).bind fun x1 => (iteB x1 (some true) ((ixS s (1 : Int)).bind fun x4 => some (x4 == (92 : Int))) : Option (Bool)).bind fun x3 => (iteB x3 (some true) ((ixS s (1 : Int)).bind fun x6 => some (x6 == (10 : Int))) : Option (Bool)).bind fun x5 => iteB x5 X Y) = if a.toNat = 115 ∧ b.toNat ≠ 92 ∧ b.toNat ≠ 10 then Y else X := by
      intro X Y
      rw [decide_eq_false (by omega), iteB_false, h0]
      simp only [Option.bind_some, h1, bne, show ((a.toNat : Int) == 115) = decide (a.toNat = 115) from q0 115, show ((b.toNat : Int) == 92) = decide (b.toNat = 92) from q1 92, show ((b.toNat : Int) == 10) = decide (b.toNat = 10) from q1 10, iteB_or]
      by_cases c1 : a.toNat = 115 <;> by_cases c2 : b.toNat = 92 <;> by_cases c3 : b.toNat = 10 <;> simp [c1, c2, c3, iteB]
    by_cases hB : a.toNat = 115 ∧ b.toNat ≠ 92 ∧ b.toNat ≠ 10
    · have p1 : M_rewrite_part s 2 (b.toNat : Int) = some (resA s (partG s (b.toNat : Int) (s.length + 1) 2 [])) := part_eq hs (i := 2) (by omega)
      have r1 : M_boulterref24_part s 2 (b.toNat : Int) = some (resB (partG s (b.toNat : Int) (s.length + 1) 2 [])) := rpart_eq hs (i := 2) (by omega)
      unfold M_rewrite_Parse M_boulterref24_Parse
      rw [hrb, if_pos hB, hbeg, Option.bind_some, decide_eq_true hB, Bool.not_true, iteB_false, h1, Option.bind_some, Option.bind_some]
      cases hp1 : partG s (b.toNat : Int) (s.length + 1) 2 [] with
      | none =>
        have p1' : M_rewrite_part s 2 (b.toNat : Int) = some ([], (s.length : Int), false) := by rw [p1, hp1]; rfl
        have r1' : M_boulterref24_part s 2 (b.toNat : Int) = some ([], -1) := by rw [r1, hp1]; rfl
        rw [p1', r1']
        exact ⟨zeroE, (s.length : Int), 11, rfl, rfl⟩
      | some x =>
        obtain ⟨o1, k1⟩ := x
        obtain ⟨l1, l2⟩ := partG_lt hp1
        have p1' : M_rewrite_part s 2 (b.toNat : Int) = some (o1, (k1 : Int), true) := by rw [p1, hp1]; rfl
        have r1' : M_boulterref24_part s 2 (b.toNat : Int) = some (o1, (k1 : Int)) := by rw [r1, hp1]; rfl
        have p2 := part_eq (d := (b.toNat : Int)) hs (i := k1) l2
        have r2 := rpart_eq (d := (b.toNat : Int)) hs (i := k1) l2
        rw [p1', r1', Option.bind_some, Option.bind_some]
        simp only [Bool.not_true, iteB_false]
        rw [decide_eq_false (p := (k1 : Int) < 0) (by omega), iteB_false, Option.bind_some, Option.bind_some]
        cases hp2 : partG s (b.toNat : Int) (s.length + 1) k1 [] with
        | none =>
          have p2' : M_rewrite_part s (k1 : Int) (b.toNat : Int) = some ([], (s.length : Int), false) := by rw [p2, hp2]; rfl
          have r2' : M_boulterref24_part s (k1 : Int) (b.toNat : Int) = some ([], -1) := by rw [r2, hp2]; rfl
          rw [p2', r2']
          exact ⟨zeroE, (s.length : Int), 11, rfl, rfl⟩
        | some x =>
          obtain ⟨o2, k2⟩ := x
          obtain ⟨l3, l4⟩ := partG_lt hp2
          have p2' : M_rewrite_part s (k1 : Int) (b.toNat : Int) = some (o2, (k2 : Int), true) := by rw [p2, hp2]; rfl
          have r2' : M_boulterref24_part s (k1 : Int) (b.toNat : Int) = some (o2, (k2 : Int)) := by rw [r2, hp2]; rfl
          rw [p2', r2', Option.bind_some, Option.bind_some]
          simp only [Bool.not_true, iteB_false]
          rw [decide_eq_false (p := (k2 : Int) < 0) (by omega), iteB_false]
          obtain ⟨r, e1, hr⟩ := flags_loop hs (s.length + 1) k2 ⟨false, false, false, 1, true, true, true⟩ [] [] (by omega) l4 SeenM.nil
          obtain ⟨r', e2, hr'⟩ := rflags_loop hs (s.length + 1) k2 ⟨false, false, false, 1, true, true, true⟩ [] [] (by omega) l4 rfl (by simp)
          unfold M_rewrite_Expr_flags
          simp only [] at e1 e2 ⊢
          rw [e1, e2, Option.bind_some, Option.bind_some]
          cases hf : flagsG s (s.length + 1) k2 ⟨false, false, false, 1, true, true, true⟩ [] with
          | inl f =>
            rw [hf] at hr hr'
            obtain ⟨m, rfl⟩ := hr
            have hr' : r' = _ := hr'
            subst hr'
            exact ⟨⟨o1, o2, f.g, f.f, f.x, f.n, f.nm, f.sf, f.hd⟩, 0, 0, rfl, rfl⟩
          | inr k =>
            rw [hf] at hr hr'
            obtain ⟨m, f', rfl⟩ := hr
            obtain ⟨f2, rfl⟩ := hr'
            refine ⟨zeroE, (k : Int), 11, ?_, rfl⟩
            simp only [Option.bind_some]
            rw [decide_eq_true (p := (k : Int) ≥ 0) (by omega), iteB_true]
            rfl
    · refine ⟨zeroE, 0, 11, ?_, ?_⟩
      · unfold M_rewrite_Parse
        rw [hbeg, Option.bind_some, decide_eq_false hB]
        rfl
      · unfold M_boulterref24_Parse
        rw [hrb, if_neg hB]
        rfl
theorem lawRewriteParses (x0 : List UInt8) (k0 : okT x0) : M_boulterlaw24_RewriteParses x0 = some true := by
  unfold M_boulterlaw24_RewriteParses
  refine W.eq (W.iteP (fun h => ⟨true, rfl, rfl⟩) fun h => ?_)
  obtain ⟨e, a, r, e1, e2⟩ := both (s := x0) (by omega)
  rw [e1, Option.bind_some]
  simp only []
  rw [e2, Option.bind_some]
  unfold toR
  simp only []
  rw [eqG_self (by kernel_rfl) (by kernel_rfl), Option.bind_some]
  simp only [beq_self_eq_true, Bool.and_self, iteB_true]
  exact ⟨true, rfl, rfl⟩
end Go.Av.L
