/-
  Rewrite: the document's flags, one by one.
-/
import Derived.Test.YtkdlmohhklimjaaGreatDoorRwA
namespace Go.Av.L
open Go.Av Go.Lib
set_option linter.unusedVariables false
set_option linter.unusedSimpArgs false

theorem bind_eq {α β : Type} {c : Option α} {k : α → Option β} {x : α} {r : Option β} (hc : c = some x) (hk : k x = r) : c.bind k = r := by rw [hc]; exact hk
abbrev RS := Bool × Bool × Bool × Int × Bool × Bool × Bool × Int × (List UInt8)
def afterR (str : List UInt8) (seen : List Int) (i : Nat) (f : Fl) : Option (Fl × Int × Nat) → RS ⊕ ((Bool × Bool × Bool × Int × Bool × Bool × Bool) ⊕ (Bool × Bool × Bool × Int × Bool × Bool × Bool × Int × Int))
  | none => .inr (.inr (f.g, f.f, f.x, f.n, f.nm, f.sf, f.hd, (i : Int), 11))
  | some (f', k, j) => if k ∈ seen then .inr (.inr (f'.g, f'.f, f'.x, f'.n, f'.nm, f'.sf, f'.hd, (i : Int), 11)) else .inl (f'.g, f'.f, f'.x, f'.n, f'.nm, f'.sf, f'.hd, (j : Int), str ++ [UInt8.ofNat k.toNat])
theorem in_eq (k : Int) (l : List UInt8) (hl : l.length ≤ 1000) : M_boulterref13_In k l = some (decide (k ∈ l.map fun b => (b.toNat : Int))) := by
  unfold M_boulterref13_In
  have key : ∀ (n i : Nat), n + i = l.length → loop (M_boulterref13_In_L0 k l) (i : Int) = some (if k ∈ (l.drop i).map (fun b => (b.toNat : Int)) then .inr true else .inl ()) := by
    intro n
    induction n with
    | zero =>
      intro i hi
      refine loop_end ?_
      unfold M_boulterref13_In_L0
      simp only []
      rw [iteB_dec, if_neg (by omega), List.drop_of_length_le (by omega)]
      rfl
    | succ n ih =>
      intro i hi
      have hlt : i < l.length := by omega
      have hst : M_boulterref13_In_L0 k l (i : Int) = if ((l[i]).toNat : Int) = k then some (.inr (.inr true)) else some (.inl ((i + 1 : Nat) : Int)) := by
        unfold M_boulterref13_In_L0
        simp only []
        rw [iteB_dec, if_pos (by omega), ixS_get hlt, Option.bind_some, iteB_beq, ek64 (by omega)]
      have hd : (l.drop i).map (fun b => (b.toNat : Int)) = (l[i].toNat : Int) :: (l.drop (i + 1)).map (fun b => (b.toNat : Int)) := by rw [List.drop_eq_getElem_cons hlt, List.map_cons]
      by_cases hk : ((l[i]).toNat : Int) = k
      · rw [if_pos hk] at hst
        rw [loop_end hst, if_pos (by rw [hd, hk]; exact List.mem_cons_self)]
      · rw [if_neg hk] at hst
        rw [loop_step hst, ih (i + 1) (by omega)]
        by_cases hm : k ∈ (l.drop (i + 1)).map fun b => (b.toNat : Int)
        · rw [if_pos hm, if_pos (by rw [hd]; exact List.mem_cons_of_mem _ hm)]
        · rw [if_neg hm, if_neg (by rw [hd, List.mem_cons]; exact fun h => h.elim (fun e => hk e.symm) hm)]
  have h0 := key l.length 0 (by omega)
  rw [List.drop_zero] at h0
  have h0 : loop (M_boulterref13_In_L0 k l) 0 = _ := h0
  rw [h0]
  by_cases hk : k ∈ l.map fun b => (b.toNat : Int)
  · rw [if_pos hk, decide_eq_true hk]; rfl
  · rw [if_neg hk, decide_eq_false hk]; rfl
theorem afterR_ok {str : List UInt8} {seen : List Int} (hm : seen = str.map fun b => (b.toNat : Int)) (hl : str.length ≤ 1000) {i : Nat} {f f' : Fl} {k : Int} {j : Nat} {e : Option (Fl × Int × Nat)} (he : e = some (f', k, j)) (hk : 0 ≤ k ∧ k ≤ 255) :
    ((M_boulterref13_In k str).bind fun x65 => iteB x65 (some (.inr (.inr (f'.g, f'.f, f'.x, f'.n, f'.nm, f'.sf, f'.hd, (i : Int), (11 : Int))))) ((toY k).bind fun x66 => need (decide (str.length + ([x66] : List UInt8).length ≤ 9223372036854775807)) <| some (.inl (f'.g, f'.f, f'.x, f'.n, f'.nm, f'.sf, f'.hd, (j : Int), str ++ ([x66] : List UInt8))))) = some (afterR str seen i f e) := by
  subst he
  rw [in_eq k str hl, Option.bind_some, ← hm]
  unfold afterR
  by_cases h : k ∈ seen
  · rw [decide_eq_true h, iteB_true]; simp [h]
  · have ht : toY k = some (UInt8.ofNat k.toNat) := by
      unfold toY
      rw [if_pos (by omega)]
    rw [decide_eq_false h, iteB_false, ht, Option.bind_some, decide_eq_true (by simp; omega), need_true]; simp [h]
/-- the document's number -/
theorem rnum {s : List UInt8} (hs : s.length ≤ 200) {i : Nat} {b : UInt8} (hb : s[i]? = some b) (hd : 49 ≤ b.toNat ∧ b.toNat ≤ 57) :
    ∃ v, loop (M_boulterref24_Parse_L1 s) (((i + 1 : Nat) : Int), (b.toNat : Int) - 48) = some (((digE s (s.length + 1) (i + 1) : Nat) : Int), v) ∧ (4 < digE s (s.length + 1) (i + 1) - i → v > 9999) ∧ (¬ 4 < digE s (s.length + 1) (i + 1) - i → v ≤ 9999 ∧ v = val ((s.drop i).take (digE s (s.length + 1) (i + 1) - i))) := by
  have hi := (List.getElem?_eq_some_iff.1 hb).1
  have hdr : s.drop i = b :: s.drop (i + 1) := by rw [List.drop_eq_getElem_cons hi, (List.getElem?_eq_some_iff.1 hb).2]
  have key : ∀ (n j : Nat), s.length < n + j → i + 1 ≤ j → j ≤ s.length → (∀ c ∈ (s.drop (i + 1)).take (j - (i + 1)), isD c) →
      loop (M_boulterref24_Parse_L1 s) ((j : Int), mn (val ((s.drop i).take (j - i))) 100000) = some (((digE s n j : Nat) : Int), mn (val ((s.drop i).take (digE s n j - i))) 100000) ∧ (∀ c ∈ (s.drop (i + 1)).take (digE s n j - (i + 1)), isD c) := by
    intro n
    induction n with
    | zero => intro j h1 h2 h3; omega
    | succ n ih =>
      intro j h1 h2 h3 h4
      unfold digE
      cases hc : s[j]? with
      | none =>
        have hj : ¬ j < s.length := fun h => by rw [List.getElem?_eq_getElem h] at hc; cases hc
        refine ⟨loop_end ?_, h4⟩
        unfold M_boulterref24_Parse_L1
        simp only []
        rw [iteB_dec, if_neg (by omega)]
        rfl
      | some c =>
        have hj := (List.getElem?_eq_some_iff.1 hc).1
        have hv := val_bd (j - i) ((s.drop i).take (j - i)) (by simp; omega) (fun x hx => by
          rw [hdr, show j - i = (j - (i + 1)) + 1 by omega, List.take_succ_cons, List.mem_cons] at hx
          rcases hx with rfl | hx
          · exact ⟨by omega, by omega⟩
          · exact h4 x hx)
        have hst : M_boulterref24_Parse_L1 s ((j : Int), mn (val ((s.drop i).take (j - i))) 100000) = if isD c then some (.inl (((j + 1 : Nat) : Int), mn (mn (val ((s.drop i).take (j - i))) 100000 * 10 + ((c.toNat : Int) - 48)) 100000)) else some (.inr ((j : Int), mn (val ((s.drop i).take (j - i))) 100000)) := by
          have hm : 0 ≤ mn (val ((s.drop i).take (j - i))) 100000 ∧ mn (val ((s.drop i).take (j - i))) 100000 ≤ 100000 := by unfold mn; split <;> omega
          have hcl := c.toNat_lt
          unfold M_boulterref24_Parse_L1
          simp only []
          have e : 10 * mn (val ((s.drop i).take (j - i))) 100000 + (c.toNat : Int) - 48 = mn (val ((s.drop i).take (j - i))) 100000 * 10 + ((c.toNat : Int) - 48) := by omega
          rw [iteB_dec, if_pos (by omega), ixS_nat hc]
          simp only [Option.bind_some, iteB_an]
          rw [isD_dec, iteB_dec, ek64 (by omega), w64 (x := 10 * mn (val ((s.drop i).take (j - i))) 100000) (by omega) (by omega), w64 (x := (c.toNat : Int)) (by omega) (by omega), w64 (x := 10 * mn (val ((s.drop i).take (j - i))) 100000 + (c.toNat : Int)) (by omega) (by omega), w64 (by omega) (by omega), e]
        simp only []
        by_cases hcd : isD c
        · rw [if_pos hcd] at hst ⊢
          have ht : (s.drop i).take (j + 1 - i) = (s.drop i).take (j - i) ++ [c] := by
            rw [show j + 1 - i = (j - i) + 1 by omega]
            exact take_snoc (by rw [List.getElem?_drop, show i + (j - i) = j by omega]; exact hc)
          have ht2 : (s.drop (i + 1)).take (j + 1 - (i + 1)) = (s.drop (i + 1)).take (j - (i + 1)) ++ [c] := by
            rw [show j + 1 - (i + 1) = (j - (i + 1)) + 1 by omega]
            exact take_snoc (by rw [List.getElem?_drop, show i + 1 + (j - (i + 1)) = j by omega]; exact hc)
          have he : mn (mn (val ((s.drop i).take (j - i))) 100000 * 10 + ((c.toNat : Int) - 48)) 100000 = mn (val ((s.drop i).take (j + 1 - i))) 100000 := by
            rw [ht, val_snoc]
            have hcd' := hcd
            unfold isD at hcd'
            unfold mn
            repeat' split
            all_goals omega
          rw [loop_step hst, he]
          refine ih (j + 1) (by omega) (by omega) (by omega) fun x hx => ?_
          rw [ht2, List.mem_append, List.mem_singleton] at hx
          rcases hx with hx | rfl
          · exact h4 x hx
          · exact hcd
        · rw [if_neg hcd] at hst ⊢
          exact ⟨loop_end hst, h4⟩
  obtain ⟨k1, k2⟩ := key (s.length + 1) (i + 1) (by omega) (by omega) (by omega) (by simp)
  obtain ⟨d1, d2, d3⟩ := digE_spec (s := s) (s.length + 1) (i + 1) (by omega)
  have e0 : mn (val ((s.drop i).take (i + 1 - i))) 100000 = (b.toNat : Int) - 48 := by
    rw [show i + 1 - i = 1 by omega, hdr]
    simp only [List.take_succ_cons, List.take_zero, val, List.foldl_cons, List.foldl_nil]
    unfold mn
    split <;> omega
  rw [e0] at k1
  refine ⟨_, k1, fun h4 => ?_, fun h4 => ?_⟩
  all_goals
    have hd2 : (s.drop i).take (digE s (s.length + 1) (i + 1) - i) = b :: (s.drop (i + 1)).take (digE s (s.length + 1) (i + 1) - (i + 1)) := by
      rw [hdr, show digE s (s.length + 1) (i + 1) - i = (digE s (s.length + 1) (i + 1) - (i + 1)) + 1 by omega, List.take_succ_cons]
  · have h5 := val_lo (digE s (s.length + 1) (i + 1) - (i + 1)) ((s.drop (i + 1)).take (digE s (s.length + 1) (i + 1) - (i + 1))) b (by simp; omega) k2 hd.1
    have h6 : (10 : Int) ^ 4 ≤ 10 ^ (digE s (s.length + 1) (i + 1) - (i + 1)) := ten_le (by omega)
    have h7 : (10 : Int) ^ 4 = 10000 := by decide
    rw [hd2]
    unfold mn
    split <;> omega
  · have h5 := val_bd (digE s (s.length + 1) (i + 1) - i) ((s.drop i).take (digE s (s.length + 1) (i + 1) - i)) (by simp; omega) (fun x hx => by
      rw [hd2, List.mem_cons] at hx
      rcases hx with rfl | hx
      · exact ⟨by omega, by omega⟩
      · exact k2 x hx)
    have h6 : (10 : Int) ^ (digE s (s.length + 1) (i + 1) - i) ≤ 10 ^ 4 := ten_le (by omega)
    have h7 : (10 : Int) ^ 4 = 10000 := by decide
    unfold mn
    split <;> omega

theorem rflags_step {s : List UInt8} (hs : s.length ≤ 200) {i : Nat} {b : UInt8} (hb : s[i]? = some b) (f : Fl) {str : List UInt8} {seen : List Int} (hm : seen = str.map fun b => (b.toNat : Int)) (hl : str.length ≤ 1000) :
    M_boulterref24_Parse_L0 s (f.g, f.f, f.x, f.n, f.nm, f.sf, f.hd, (i : Int), str) = some (afterR str seen i f (act s i b.toNat f)) := by
  have hi := (List.getElem?_eq_some_iff.1 hb).1
  have e1 : IntKind.i64.wrap ((i : Int) + 1) = ((i + 1 : Nat) : Int) := wrap1 (n := 1) (by omega) (by omega)
  unfold M_boulterref24_Parse_L0
  simp only []
  rw [iteB_dec, if_pos (by omega), ixS_nat hb, Option.bind_some, e1]
  by_cases h103 : b.toNat = 103
  · obtain rfl := u8_of (by omega) h103
    refine bind_eq (x := .inl (f.n, ((i + 1 : Nat) : Int), 103)) rfl ?_
    exact bind_eq (x := .inl (true, f.f, f.x, f.nm, f.sf, f.hd, 103)) rfl (afterR_ok (f' := ⟨true, f.f, f.x, f.n, f.nm, f.sf, f.hd⟩) (k := 103) (j := i + 1) hm hl rfl (by decide))
  by_cases h105 : b.toNat = 105
  · obtain rfl := u8_of (by omega) h105
    refine bind_eq (x := .inl (f.n, ((i + 1 : Nat) : Int), 105)) rfl ?_
    exact bind_eq (x := .inl (f.g, true, f.x, f.nm, f.sf, f.hd, 105)) rfl (afterR_ok (f' := ⟨f.g, true, f.x, f.n, f.nm, f.sf, f.hd⟩) (k := 105) (j := i + 1) hm hl rfl (by decide))
  by_cases h120 : b.toNat = 120
  · obtain rfl := u8_of (by omega) h120
    refine bind_eq (x := .inl (f.n, ((i + 1 : Nat) : Int), 120)) rfl ?_
    exact bind_eq (x := .inl (f.g, f.f, true, f.nm, f.sf, f.hd, 120)) rfl (afterR_ok (f' := ⟨f.g, f.f, true, f.n, f.nm, f.sf, f.hd⟩) (k := 120) (j := i + 1) hm hl rfl (by decide))
  by_cases h114 : b.toNat = 114
  · obtain rfl := u8_of (by omega) h114
    refine bind_eq (x := .inl (f.n, ((i + 1 : Nat) : Int), 114)) rfl ?_
    exact bind_eq (x := .inl (f.g, f.f, f.x, true, f.sf, f.hd, 114)) rfl (afterR_ok (f' := ⟨f.g, f.f, f.x, f.n, true, f.sf, f.hd⟩) (k := 114) (j := i + 1) hm hl rfl (by decide))
  by_cases h82 : b.toNat = 82
  · obtain rfl := u8_of (by omega) h82
    refine bind_eq (x := .inl (f.n, ((i + 1 : Nat) : Int), 82)) rfl ?_
    exact bind_eq (x := .inl (f.g, f.f, f.x, false, f.sf, f.hd, 114)) rfl (afterR_ok (f' := ⟨f.g, f.f, f.x, f.n, false, f.sf, f.hd⟩) (k := 114) (j := i + 1) hm hl rfl (by decide))
  by_cases h115 : b.toNat = 115
  · obtain rfl := u8_of (by omega) h115
    refine bind_eq (x := .inl (f.n, ((i + 1 : Nat) : Int), 115)) rfl ?_
    exact bind_eq (x := .inl (f.g, f.f, f.x, f.nm, true, f.hd, 115)) rfl (afterR_ok (f' := ⟨f.g, f.f, f.x, f.n, f.nm, true, f.hd⟩) (k := 115) (j := i + 1) hm hl rfl (by decide))
  by_cases h83 : b.toNat = 83
  · obtain rfl := u8_of (by omega) h83
    refine bind_eq (x := .inl (f.n, ((i + 1 : Nat) : Int), 83)) rfl ?_
    exact bind_eq (x := .inl (f.g, f.f, f.x, f.nm, false, f.hd, 115)) rfl (afterR_ok (f' := ⟨f.g, f.f, f.x, f.n, f.nm, false, f.hd⟩) (k := 115) (j := i + 1) hm hl rfl (by decide))
  by_cases h104 : b.toNat = 104
  · obtain rfl := u8_of (by omega) h104
    refine bind_eq (x := .inl (f.n, ((i + 1 : Nat) : Int), 104)) rfl ?_
    exact bind_eq (x := .inl (f.g, f.f, f.x, f.nm, f.sf, true, 104)) rfl (afterR_ok (f' := ⟨f.g, f.f, f.x, f.n, f.nm, f.sf, true⟩) (k := 104) (j := i + 1) hm hl rfl (by decide))
  by_cases h72 : b.toNat = 72
  · obtain rfl := u8_of (by omega) h72
    refine bind_eq (x := .inl (f.n, ((i + 1 : Nat) : Int), 72)) rfl ?_
    exact bind_eq (x := .inl (f.g, f.f, f.x, f.nm, f.sf, false, 104)) rfl (afterR_ok (f' := ⟨f.g, f.f, f.x, f.n, f.nm, f.sf, false⟩) (k := 104) (j := i + 1) hm hl rfl (by decide))
  have ha : act s i b.toNat f = if 49 ≤ b.toNat ∧ b.toNat ≤ 57 then
      if 4 < digE s (s.length + 1) (i + 1) - i then none else some ({ f with n := val ((s.drop i).take (digE s (s.length + 1) (i + 1) - i)) }, 49, digE s (s.length + 1) (i + 1))
      else none := by
    unfold act
    rw [if_neg h103, if_neg h105, if_neg h120, if_neg h114, if_neg h82, if_neg h115, if_neg h83, if_neg h104, if_neg h72]
  by_cases hd : 49 ≤ b.toNat ∧ b.toNat ≤ 57
  · rw [if_pos hd] at ha
    obtain ⟨v, l1, l2, l3⟩ := rnum hs hb hd
    have hbl := b.toNat_lt
    rw [decide_eq_true (p := (b.toNat : Int) ≥ 49) (by omega), decide_eq_true (p := (b.toNat : Int) ≤ 57) (by omega), Bool.and_self, iteB_true, w64 (x := (b.toNat : Int)) (by omega) (by omega), w64 (x := (b.toNat : Int) - 48) (by omega) (by omega), l1, Option.bind_some]
    simp only []
    rw [iteB_dec]
    by_cases h4 : 4 < digE s (s.length + 1) (i + 1) - i
    · rw [if_pos h4] at ha
      rw [if_pos (l2 h4), ha]
      rfl
    · rw [if_neg h4] at ha
      obtain ⟨l4, l5⟩ := l3 h4
      rw [if_neg (by omega), l5]
      refine bind_eq (x := .inl (val ((s.drop i).take (digE s (s.length + 1) (i + 1) - i)), ((digE s (s.length + 1) (i + 1) : Nat) : Int), 49)) rfl ?_
      exact bind_eq (x := .inl (f.g, f.f, f.x, f.nm, f.sf, f.hd, 49)) rfl (afterR_ok (f' := ⟨f.g, f.f, f.x, val ((s.drop i).take (digE s (s.length + 1) (i + 1) - i)), f.nm, f.sf, f.hd⟩) (k := 49) (j := digE s (s.length + 1) (i + 1)) hm hl ha (by decide))
  · rw [if_neg hd] at ha
    have hdb : (decide ((b.toNat : Int) ≥ 49) && decide ((b.toNat : Int) ≤ 57)) = false := by
      rw [Bool.and_eq_false_iff, decide_eq_false_iff_not, decide_eq_false_iff_not]; omega
    rw [hdb, iteB_false, ha]
    refine bind_eq (x := .inl (f.n, ((i + 1 : Nat) : Int), (b.toNat : Int))) rfl ?_
    have h49 : ¬ b.toNat = 49 := by omega
    refine bind_eq (x := .inr ((i : Int), (11 : Int))) ?_ rfl
    simp only [show ((b.toNat : Int) == 49) = decide (b.toNat = 49) from beqN b.toNat 49, show ((b.toNat : Int) == 103) = decide (b.toNat = 103) from beqN b.toNat 103, show ((b.toNat : Int) == 105) = decide (b.toNat = 105) from beqN b.toNat 105, show ((b.toNat : Int) == 120) = decide (b.toNat = 120) from beqN b.toNat 120, show ((b.toNat : Int) == 114) = decide (b.toNat = 114) from beqN b.toNat 114, show ((b.toNat : Int) == 82) = decide (b.toNat = 82) from beqN b.toNat 82, show ((b.toNat : Int) == 115) = decide (b.toNat = 115) from beqN b.toNat 115, show ((b.toNat : Int) == 83) = decide (b.toNat = 83) from beqN b.toNat 83, show ((b.toNat : Int) == 104) = decide (b.toNat = 104) from beqN b.toNat 104, show ((b.toNat : Int) == 72) = decide (b.toNat = 72) from beqN b.toNat 72]
    simp only [decide_eq_false h49, decide_eq_false h103, decide_eq_false h105, decide_eq_false h120, decide_eq_false h114, decide_eq_false h82, decide_eq_false h115, decide_eq_false h83, decide_eq_false h104, decide_eq_false h72, iteB_or, iteB_false, Option.bind_some, Bool.or_self]
def RQ : Fl ⊕ Nat → (Bool × Bool × Bool × Int × Bool × Bool × Bool) ⊕ (Bool × Bool × Bool × Int × Bool × Bool × Bool × Int × Int) → Prop
  | .inl f, r => r = .inl (f.g, f.f, f.x, f.n, f.nm, f.sf, f.hd)
  | .inr k, r => ∃ f', r = .inr (Fl.g f', f'.f, f'.x, f'.n, f'.nm, f'.sf, f'.hd, (k : Int), 11)
theorem rflags_loop {s : List UInt8} (hs : s.length ≤ 200) : ∀ (n i : Nat) (f : Fl) (str : List UInt8) (seen : List Int), s.length < n + i → i ≤ s.length → seen = str.map (fun b => (b.toNat : Int)) → str.length ≤ i →
    W (loop (M_boulterref24_Parse_L0 s) (f.g, f.f, f.x, f.n, f.nm, f.sf, f.hd, (i : Int), str)) (RQ (flagsG s n i f seen))
  | 0, i, f, str, seen, h1, h2, hm, hl => by omega
  | n + 1, i, f, str, seen, h1, h2, hm, hl => by
    unfold flagsG
    cases hb : s[i]? with
    | none =>
      have hi : ¬ i < s.length := fun h => by rw [List.getElem?_eq_getElem h] at hb; cases hb
      refine ⟨.inl (f.g, f.f, f.x, f.n, f.nm, f.sf, f.hd), loop_end ?_, show RQ (.inl f) (.inl (f.g, f.f, f.x, f.n, f.nm, f.sf, f.hd)) from rfl⟩
      unfold M_boulterref24_Parse_L0
      simp only []
      rw [iteB_dec, if_neg (by omega)]
    | some b =>
      have hi := (List.getElem?_eq_some_iff.1 hb).1
      have hst := rflags_step hs hb f hm (by omega)
      simp only []
      cases ha : act s i b.toNat f with
      | none =>
        rw [ha] at hst
        exact ⟨_, loop_end hst, f, rfl⟩
      | some x =>
        obtain ⟨f', k, j⟩ := x
        obtain ⟨a1, a2, a3, a4⟩ := act_lt hi ha
        rw [ha] at hst
        simp only []
        unfold afterR at hst
        simp only [] at hst
        by_cases hk : k ∈ seen
        · rw [if_pos hk] at hst ⊢
          exact ⟨_, loop_end hst, f', rfl⟩
        · rw [if_neg hk] at hst ⊢
          rw [loop_step hst]
          refine rflags_loop hs n j f' _ _ (by omega) a2 ?_ (by simp; omega)
          rw [hm, List.map_append]
          have e : ((UInt8.ofNat k.toNat).toNat : Int) = k := by
            rw [UInt8.toNat_ofNat']; omega
          rw [List.map_cons, List.map_nil, e]
end Go.Av.L
