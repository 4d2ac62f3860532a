/-
  RewriteList: expressions with a sign between are told apart again; each is what it was.
-/
import Derived.Test.YtkdlmohhklimjaaGreatDoorRwB
namespace Go.Av.L
open Go.Av Go.Lib
set_option linter.unusedVariables false
set_option linter.unusedSimpArgs false

/-! ### a part of a text within another one -/
theorem get_mid {pre x post : List UInt8} {i : Nat} {b : UInt8} (h : x[i]? = some b) : (pre ++ (x ++ post))[pre.length + i]? = some b := by
  have hi := (List.getElem?_eq_some_iff.1 h).1
  rw [List.getElem?_append_right (by omega), show pre.length + i - pre.length = i by omega, List.getElem?_append_left hi, h]
theorem partG_ext {pre x post : List UInt8} {d : Int} : ∀ {n i : Nat} {o o' : List UInt8} {k : Nat}, partG x d n i o = some (o', k) → ∀ m, n ≤ m → partG (pre ++ (x ++ post)) d m (pre.length + i) o = some (o', pre.length + k)
  | 0, i, o, o', k, h, m, hm => by cases h
  | n + 1, i, o, o', k, h, m, hm => by
    obtain ⟨m, rfl⟩ : ∃ m', m = m' + 1 := ⟨m - 1, by omega⟩
    unfold partG at h ⊢
    cases hb : x[i]? with
    | none => rw [hb] at h; cases h
    | some b =>
      rw [hb] at h
      rw [get_mid hb]
      simp only at h ⊢
      by_cases hd : (b.toNat : Int) = d
      · rw [if_pos hd] at h ⊢
        cases h
        rfl
      · rw [if_neg hd] at h ⊢
        by_cases h9 : b.toNat = 92
        · rw [if_pos h9] at h ⊢
          cases hc : x[i + 1]? with
          | none =>
            rw [hc] at h
            simp only at h
            cases n with
            | zero => cases h
            | succ n =>
              unfold partG at h
              rw [hc] at h
              cases h
          | some c =>
            rw [hc] at h
            have := get_mid (pre := pre) (post := post) hc
            rw [Nat.add_assoc, this]
            simp only at h ⊢
            have := partG_ext (pre := pre) (post := post) h m (by omega)
            rw [← Nat.add_assoc] at this
            exact this
        · rw [if_neg h9] at h ⊢
          have := partG_ext (pre := pre) (post := post) h m (by omega)
          rw [← Nat.add_assoc] at this
          exact this
theorem idx_no : ∀ {t : List UInt8}, (59 : UInt8) ∉ t → idxOf t 59 = -1
  | [], _ => rfl
  | b :: t, h => by
    rw [idxOf_cons, if_neg (fun e => h (by rw [e]; exact List.mem_cons_self)), idx_no (fun hh => h (List.mem_cons_of_mem _ hh))]
    rfl
theorem idx_at : ∀ {t r : List UInt8}, (59 : UInt8) ∉ t → idxOf (t ++ 59 :: r) 59 = (t.length : Int)
  | [], r, _ => by rw [List.nil_append, idxOf_cons, if_pos rfl]; rfl
  | b :: t, r, h => by
    rw [List.cons_append, idxOf_cons, if_neg (fun e => h (by rw [e]; exact List.mem_cons_self)), idx_at (fun hh => h (List.mem_cons_of_mem _ hh)), if_neg (by omega)]
    simp

/-! ### an expression -/
structure Good (x : List UInt8) (k1 k2 : Nat) : Prop where
  len : 2 ≤ x.length ∧ x.length ≤ 60
  h0 : x[0]? = some 115
  b : ∃ b : UInt8, x[1]? = some b ∧ b.toNat ≠ 92 ∧ b.toNat ≠ 10 ∧ ∃ o1 o2, partG x (b.toNat : Int) (x.length + 1) 2 [] = some (o1, k1) ∧ partG x (b.toNat : Int) (x.length + 1) k1 [] = some (o2, k2)
  sep : (59 : UInt8) ∉ x.drop k2
theorem act_sep {s : List UInt8} {i : Nat} {b : UInt8} {f f' : Fl} {k : Int} {j : Nat} (hb : s[i]? = some b) (h : act s i b.toNat f = some (f', k, j)) : ∀ q c, i ≤ q → q < j → s[q]? = some c → c ≠ 59 := by
  have hi := (List.getElem?_eq_some_iff.1 hb).1
  have hd := digE_spec (s := s) (s.length + 1) (i + 1) (by omega)
  have one : j = i + 1 → b.toNat ≠ 59 → ∀ q c, i ≤ q → q < j → s[q]? = some c → c ≠ 59 := by
    rintro rfl hne q c h1 h2 h3
    have : q = i := by omega
    subst this
    rw [hb] at h3
    cases h3
    rintro rfl
    exact hne rfl
  unfold act at h
  by_cases h103 : b.toNat = 103
  · rw [if_pos h103] at h
    simp only [Option.some.injEq, Prod.mk.injEq] at h
    exact one h.2.2.symm (by omega)
  rw [if_neg h103] at h
  by_cases h105 : b.toNat = 105
  · rw [if_pos h105] at h
    simp only [Option.some.injEq, Prod.mk.injEq] at h
    exact one h.2.2.symm (by omega)
  rw [if_neg h105] at h
  by_cases h120 : b.toNat = 120
  · rw [if_pos h120] at h
    simp only [Option.some.injEq, Prod.mk.injEq] at h
    exact one h.2.2.symm (by omega)
  rw [if_neg h120] at h
  by_cases h114 : b.toNat = 114
  · rw [if_pos h114] at h
    simp only [Option.some.injEq, Prod.mk.injEq] at h
    exact one h.2.2.symm (by omega)
  rw [if_neg h114] at h
  by_cases h82 : b.toNat = 82
  · rw [if_pos h82] at h
    simp only [Option.some.injEq, Prod.mk.injEq] at h
    exact one h.2.2.symm (by omega)
  rw [if_neg h82] at h
  by_cases h115 : b.toNat = 115
  · rw [if_pos h115] at h
    simp only [Option.some.injEq, Prod.mk.injEq] at h
    exact one h.2.2.symm (by omega)
  rw [if_neg h115] at h
  by_cases h83 : b.toNat = 83
  · rw [if_pos h83] at h
    simp only [Option.some.injEq, Prod.mk.injEq] at h
    exact one h.2.2.symm (by omega)
  rw [if_neg h83] at h
  by_cases h104 : b.toNat = 104
  · rw [if_pos h104] at h
    simp only [Option.some.injEq, Prod.mk.injEq] at h
    exact one h.2.2.symm (by omega)
  rw [if_neg h104] at h
  by_cases h72 : b.toNat = 72
  · rw [if_pos h72] at h
    simp only [Option.some.injEq, Prod.mk.injEq] at h
    exact one h.2.2.symm (by omega)
  rw [if_neg h72] at h
  by_cases hb2 : 49 ≤ b.toNat ∧ b.toNat ≤ 57
  · rw [if_pos hb2] at h
    by_cases h4 : 4 < digE s (s.length + 1) (i + 1) - i
    · rw [if_pos h4] at h; cases h
    · rw [if_neg h4] at h
      simp only [Option.some.injEq, Prod.mk.injEq] at h
      obtain ⟨_, _, rfl⟩ := h
      intro q c h1 h2 h3
      by_cases hq : q = i
      · subst hq
        rw [hb] at h3
        cases h3
        rintro rfl
        exact absurd hb2 (by decide)
      · have := hd.2.2 q c (by omega) h2 h3
        rintro rfl
        exact absurd this (by decide)
  · rw [if_neg hb2] at h; cases h
theorem flagsG_sep {s : List UInt8} : ∀ {n i : Nat} {f f' : Fl} {seen : List Int}, s.length < n + i → flagsG s n i f seen = .inl f' → ∀ q c, i ≤ q → s[q]? = some c → c ≠ 59
  | 0, i, f, f', seen, h1, h, q, c, hq, hc => by have := (List.getElem?_eq_some_iff.1 hc).1; omega
  | n + 1, i, f, f', seen, h1, h, q, c, hq, hc => by
    have hql := (List.getElem?_eq_some_iff.1 hc).1
    unfold flagsG at h
    cases hb : s[i]? with
    | none => rw [List.getElem?_eq_getElem (by omega)] at hb; cases hb
    | some b =>
      have hi := (List.getElem?_eq_some_iff.1 hb).1
      rw [hb] at h
      simp only at h
      cases ha : act s i b.toNat f with
      | none => rw [ha] at h; cases h
      | some x =>
        obtain ⟨f2, k, j⟩ := x
        obtain ⟨a1, a2, _⟩ := act_lt hi ha
        rw [ha] at h
        simp only at h
        split at h
        · cases h
        · by_cases hj : q < j
          · exact act_sep hb ha q c hq hj hc
          · exact flagsG_sep (by omega) h q c (by omega) hc
theorem ref_good {x : List UInt8} (hx : x.length ≤ 60) : ∃ e a r, M_boulterref24_Parse x = some (e, a, r) ∧ (r = 0 → ∃ k1 k2, Good x k1 k2) := by
  match x, hx with
  | [], _ => exact ⟨_, _, _, rfl, fun h => by cases h⟩
  | [a], _ => exact ⟨_, _, _, rfl, fun h => by cases h⟩
  | a :: b :: t, hx =>
    obtain ⟨s, es⟩ : ∃ s, s = a :: b :: t := ⟨_, rfl⟩
    have h0 : ixS s 0 = some (a.toNat : Int) := by rw [es]; exact ixS_head
    have h1 : ixS s 1 = some (b.toNat : Int) := ixS_nat (i := 1) (by rw [es]; rfl)
    have hl : (2 : Int) ≤ s.length := by rw [es]; simp; omega
    rw [← es] at hx ⊢
    have q0 : ∀ n : Nat, ((a.toNat : Int) == (n : Int)) = decide (a.toNat = n) := fun n => beqN _ n
    have q1 : ∀ n : Nat, ((b.toNat : Int) == (n : Int)) = decide (b.toNat = n) := fun n => beqN _ n
    have hrb : ∀ X Y : Option (S_boulterref24_Expr × Int × Int), ((iteB (decide ((s.length : Int) < (2 : Int))) (some true) ((ixS s (0 : Int)).bind fun x2 => some (x2 != (115 : Int))) : Option (Bool)).bind fun x1 => (iteB x1 (some true) ((ixS s (1 : Int)).bind fun x4 => some (x4 == (92 : Int))) : Option (Bool)).bind fun x3 => (iteB x3 (some true) ((ixS s (1 : Int)).bind fun x6 => some (x6 == (10 : Int))) : Option (Bool)).bind fun x5 => iteB x5 X Y) = if a.toNat = 115 ∧ b.toNat ≠ 92 ∧ b.toNat ≠ 10 then Y else X := by
      intro X Y
      rw [decide_eq_false (by omega), iteB_false, h0]
      simp only [Option.bind_some, h1, bne, show ((a.toNat : Int) == 115) = decide (a.toNat = 115) from q0 115, show ((b.toNat : Int) == 92) = decide (b.toNat = 92) from q1 92, show ((b.toNat : Int) == 10) = decide (b.toNat = 10) from q1 10, iteB_or]
      by_cases c1 : a.toNat = 115 <;> by_cases c2 : b.toNat = 92 <;> by_cases c3 : b.toNat = 10 <;> simp [c1, c2, c3, iteB]
    unfold M_boulterref24_Parse
    rw [hrb]
    by_cases hB : a.toNat = 115 ∧ b.toNat ≠ 92 ∧ b.toNat ≠ 10
    · have r1 : M_boulterref24_part s 2 (b.toNat : Int) = some (resB (partG s (b.toNat : Int) (s.length + 1) 2 [])) := rpart_eq (by omega) (i := 2) (by omega)
      rw [if_pos hB, h1, Option.bind_some]
      cases hp1 : partG s (b.toNat : Int) (s.length + 1) 2 [] with
      | none =>
        have r1' : M_boulterref24_part s 2 (b.toNat : Int) = some ([], -1) := by rw [r1, hp1]; rfl
        rw [r1']
        exact ⟨_, _, _, rfl, fun h => by cases h⟩
      | some x =>
        obtain ⟨o1, k1⟩ := x
        obtain ⟨l1, l2⟩ := partG_lt hp1
        have r1' : M_boulterref24_part s 2 (b.toNat : Int) = some (o1, (k1 : Int)) := by rw [r1, hp1]; rfl
        have r2 := rpart_eq (s := s) (d := (b.toNat : Int)) (by omega) (i := k1) l2
        rw [r1', Option.bind_some]
        simp only []
        rw [decide_eq_false (p := (k1 : Int) < 0) (by omega), iteB_false, Option.bind_some]
        cases hp2 : partG s (b.toNat : Int) (s.length + 1) k1 [] with
        | none =>
          have r2' : M_boulterref24_part s (k1 : Int) (b.toNat : Int) = some ([], -1) := by rw [r2, hp2]; rfl
          rw [r2']
          exact ⟨_, _, _, rfl, fun h => by cases h⟩
        | some x =>
          obtain ⟨o2, k2⟩ := x
          obtain ⟨l3, l4⟩ := partG_lt hp2
          have r2' : M_boulterref24_part s (k1 : Int) (b.toNat : Int) = some (o2, (k2 : Int)) := by rw [r2, hp2]; rfl
          rw [r2', Option.bind_some]
          simp only []
          rw [decide_eq_false (p := (k2 : Int) < 0) (by omega), iteB_false]
          obtain ⟨r', e2, hr'⟩ := rflags_loop (s := s) (by omega) (s.length + 1) k2 ⟨false, false, false, 1, true, true, true⟩ [] [] (by omega) l4 rfl (by simp)
          simp only [] at e2 ⊢
          rw [e2, Option.bind_some]
          cases hf : flagsG s (s.length + 1) k2 ⟨false, false, false, 1, true, true, true⟩ [] with
          | inl f =>
            rw [hf] at hr'
            have hr' : r' = _ := hr'
            subst hr'
            refine ⟨_, _, _, rfl, fun _ => ⟨k1, k2, ⟨by omega, hx⟩, ?_, ⟨b, by rw [es]; rfl, hB.2.1, hB.2.2, o1, o2, hp1, hp2⟩, fun hm => ?_⟩⟩
            · rw [es]
              have := u8_of (by omega) hB.1
              rw [this]; rfl
            · obtain ⟨q, hq⟩ := List.getElem?_of_mem hm
              rw [List.getElem?_drop] at hq
              exact flagsG_sep (by omega) hf (k2 + q) 59 (by omega) hq rfl
          | inr k =>
            rw [hf] at hr'
            obtain ⟨f2, rfl⟩ := hr'
            exact ⟨_, _, _, rfl, fun h => by cases h⟩
    · rw [if_neg hB]
      exact ⟨_, _, _, rfl, fun h => by cases h⟩

/-! ### the list -/
def joinS : List (List UInt8) → List UInt8
  | [] => []
  | [x] => x
  | x :: y :: r => x ++ 59 :: joinS (y :: r)
theorem joinS_snoc : ∀ (l : List (List UInt8)) (x : List UInt8), l ≠ [] → joinS (l ++ [x]) = joinS l ++ 59 :: x
  | [], x, h => absurd rfl h
  | [y], x, _ => rfl
  | y :: z :: r, x, _ => by
    have ih := joinS_snoc (z :: r) x (by simp)
    simp only [List.cons_append] at ih ⊢
    rw [joinS, joinS, ih]
    simp
theorem joinS_len : ∀ (l : List (List UInt8)), (∀ x ∈ l, x.length ≤ 60) → (joinS l).length ≤ 61 * l.length
  | [], _ => by simp [joinS]
  | [x], h => by have := h x (by simp); simp only [joinS, List.length_singleton]; omega
  | x :: y :: r, h => by
    have := h x (by simp)
    have ih := joinS_len (y :: r) (fun z hz => h z (List.mem_cons_of_mem _ hz))
    simp only [joinS, List.length_append, List.length_cons] at ih ⊢
    omega
theorem begins_at {s : List UInt8} {i : Nat} (hi : i ≤ 900) {b : UInt8} (h0 : s[i]? = some 115) (h1 : s[i + 1]? = some b) (h9 : b.toNat ≠ 92) (h10 : b.toNat ≠ 10) : M_rewrite_begins s (i : Int) = some true := by
  have hl := (List.getElem?_eq_some_iff.1 h1).1
  have q1 : ∀ n : Nat, ((b.toNat : Int) == (n : Int)) = decide (b.toNat = n) := fun n => beqN _ n
  unfold M_rewrite_begins
  rw [ek64 (by omega), decide_eq_true (by omega), iteB_true, ixS_nat h0, ixS_nat h1]
  simp only [Option.bind_some, bne, show ((b.toNat : Int) == 92) = decide (b.toNat = 92) from q1 92, show ((b.toNat : Int) == 10) = decide (b.toNat = 10) from q1 10, decide_eq_false h9, decide_eq_false h10]
  rfl
theorem two_parts {pre x post : List UInt8} {k1 k2 : Nat} (g : Good x k1 k2) (hl : (pre ++ (x ++ post)).length ≤ 800) {b : UInt8} {o1 o2 : List UInt8} (hb : x[1]? = some b)
    (h1 : partG x (b.toNat : Int) (x.length + 1) 2 [] = some (o1, k1)) (h2 : partG x (b.toNat : Int) (x.length + 1) k1 [] = some (o2, k2)) :
    loop (M_rewrite_List_L1 (pre ++ (x ++ post)) (b.toNat : Int)) (((pre.length + 2 : Nat) : Int), 0) = some (.inl ((pre.length + k2 : Nat) : Int)) := by
  obtain ⟨l1, l2⟩ := partG_lt h1
  obtain ⟨l3, l4⟩ := partG_lt h2
  have hlen : (pre ++ (x ++ post)).length = pre.length + x.length + post.length := by simp; omega
  have e1 := part_eq (s := pre ++ (x ++ post)) (d := (b.toNat : Int)) (by omega) (i := pre.length + 2) (by have := g.len; omega)
  have e2 := part_eq (s := pre ++ (x ++ post)) (d := (b.toNat : Int)) (by omega) (i := pre.length + k1) (by omega)
  rw [partG_ext h1 _ (by omega)] at e1
  rw [partG_ext h2 _ (by omega)] at e2
  have e1 : M_rewrite_part (pre ++ (x ++ post)) ((pre.length + 2 : Nat) : Int) (b.toNat : Int) = some (o1, ((pre.length + k1 : Nat) : Int), true) := e1
  have e2 : M_rewrite_part (pre ++ (x ++ post)) ((pre.length + k1 : Nat) : Int) (b.toNat : Int) = some (o2, ((pre.length + k2 : Nat) : Int), true) := e2
  rw [loop_step (s' := (((pre.length + k1 : Nat) : Int), 1)), loop_step (s' := (((pre.length + k2 : Nat) : Int), 2)), loop_end (r := .inl ((pre.length + k2 : Nat) : Int))]
  · rfl
  · unfold M_rewrite_List_L1
    simp only []
    rw [decide_eq_true (by decide), iteB_true, e2]
    rfl
  · unfold M_rewrite_List_L1
    simp only []
    rw [decide_eq_true (by decide), iteB_true, e1]
    rfl
theorem index_eq (s : List UInt8) : M_strings_IndexByte s 59 = some (idxOf s 59) := rfl
theorem list_loop : ∀ (r : List (List UInt8)) (pre : List UInt8) (out : List (List UInt8)), r ≠ [] → (∀ x ∈ r, ∃ k1 k2, Good x k1 k2) → (pre ++ joinS r).length ≤ 800 → out.length + r.length ≤ 10 →
    loop (M_rewrite_List_L0 (pre ++ joinS r)) (out, (pre.length : Int)) = some (out ++ r, true)
  | [], pre, out, h, _, _, _ => absurd rfl h
  | [x], pre, out, _, hg, hl, ho => by
    obtain ⟨k1, k2, g⟩ := hg x (by simp)
    obtain ⟨b, hb, h9, h10, o1, o2, p1, p2⟩ := g.b
    obtain ⟨l3, l4⟩ := partG_lt p2
    have hlx := g.len
    have e : pre ++ joinS [x] = pre ++ (x ++ []) := by simp [joinS]
    rw [e] at hl ⊢
    have hlen : (pre ++ (x ++ [])).length = pre.length + x.length := by simp
    refine loop_end ?_
    unfold M_rewrite_List_L0
    simp only []
    rw [begins_at (by omega) (by have := get_mid (pre := pre) (post := []) g.h0; simpa using this) (get_mid (post := []) hb) h9 h10, Option.bind_some, Bool.not_true, iteB_false, ek64 (by omega), ixS_nat (get_mid (post := []) hb), Option.bind_some,
      show IntKind.i64.wrap ((pre.length : Int) + 2) = ((pre.length + 2 : Nat) : Int) from wrap1 (n := 2) (by omega) (by omega), two_parts g hl hb p1 p2, Option.bind_some]
    simp only []
    have hd : (pre ++ (x ++ [])).drop (pre.length + k2) = x.drop k2 := by
      rw [List.append_nil, ← List.drop_drop, List.drop_left]
    rw [subS_lo (by omega), Option.bind_some, hd, index_eq, idx_no g.sep, Option.bind_some, decide_eq_true (by decide), iteB_true, subS_lo (by omega), Option.bind_some, List.drop_left, List.append_nil, okN_of (by simp; omega) (by simp; omega)]
    rfl
  | x :: y :: r, pre, out, _, hg, hl, ho => by
    obtain ⟨k1, k2, g⟩ := hg x (by simp)
    obtain ⟨b, hb, h9, h10, o1, o2, p1, p2⟩ := g.b
    obtain ⟨l3, l4⟩ := partG_lt p2
    have hlx := g.len
    have e : pre ++ joinS (x :: y :: r) = pre ++ (x ++ (59 :: joinS (y :: r))) := by simp [joinS]
    have e' : pre ++ (x ++ (59 :: joinS (y :: r))) = (pre ++ (x ++ [59])) ++ joinS (y :: r) := by simp
    rw [e] at hl ⊢
    have hlen : (pre ++ (x ++ (59 :: joinS (y :: r)))).length = pre.length + x.length + (joinS (y :: r)).length + 1 := by simp; omega
    have hd : (pre ++ (x ++ (59 :: joinS (y :: r)))).drop (pre.length + k2) = x.drop k2 ++ 59 :: joinS (y :: r) := by
      rw [← List.drop_drop, List.drop_left, List.drop_append_of_le_length l4]
    have hx17 : ((pre ++ (x ++ (59 :: joinS (y :: r)))).drop pre.length).take (pre.length + x.length - pre.length) = x := by
      rw [List.drop_left, show pre.length + x.length - pre.length = x.length by omega, List.take_left]
    have hdl : ((x.drop k2).length : Int) = (x.length : Int) - k2 := by rw [List.length_drop]; omega
    have hst : M_rewrite_List_L0 (pre ++ (x ++ (59 :: joinS (y :: r)))) (out, (pre.length : Int)) = some (.inl (out ++ [x], ((pre ++ (x ++ [59])).length : Int))) := by
      unfold M_rewrite_List_L0
      simp only []
      rw [begins_at (by omega) (by have := get_mid (pre := pre) (post := 59 :: joinS (y :: r)) g.h0; simpa using this) (get_mid hb) h9 h10, Option.bind_some, Bool.not_true, iteB_false, ek64 (by omega), ixS_nat (get_mid hb), Option.bind_some,
        show IntKind.i64.wrap ((pre.length : Int) + 2) = ((pre.length + 2 : Nat) : Int) from wrap1 (n := 2) (by omega) (by omega), two_parts g hl hb p1 p2, Option.bind_some]
      simp only []
      rw [subS_lo (by omega), Option.bind_some, hd, index_eq, idx_at g.sep, Option.bind_some, decide_eq_false (by omega), iteB_false, w64 (x := ((pre.length + k2 : Nat) : Int) + ((x.drop k2).length : Int)) (by omega) (by omega), w64 (x := ((x.drop k2).length : Int) + 1) (by omega) (by omega), w64 (by omega) (by omega),
        show ((pre.length + k2 : Nat) : Int) + ((x.drop k2).length : Int) = ((pre.length + x.length : Nat) : Int) by omega, subS_both (by omega) (by omega), hx17, Option.bind_some, okN_of (by simp; omega) (by simp; omega), need_true]
      congr 3
      simp only [List.length_append, List.length_singleton]
      omega
    rw [loop_step hst, e', list_loop (y :: r) (pre ++ (x ++ [59])) (out ++ [x]) (by simp) (fun z hz => hg z (List.mem_cons_of_mem _ hz)) (by rw [← e']; exact hl) (by simp at ho ⊢; omega)]
    simp
theorem lawRewriteList (x0 : List (List UInt8)) (k0 : okL okT x0) : M_boulterlaw24_RewriteList x0 = some true := by
  unfold M_boulterlaw24_RewriteList
  refine W.eq (W.iteP (fun h => ⟨true, rfl, rfl⟩) fun h => ?_)
  have h6 : x0.length ≤ 6 := by omega
  refine W.bind (W.mono (Q := fun o => o = .inr true ∨ (o = .inl (joinS x0) ∧ ∀ x ∈ x0, ∃ k1 k2, Good x k1 k2)) ?_ ?_)
  · refine W.loop (fun st => ∃ i : Nat, st = (joinS (x0.take i), (i : Int)) ∧ i ≤ x0.length ∧ ∀ x ∈ x0.take i, ∃ k1 k2, Good x k1 k2) (fun st => x0.length - st.2.toNat) ⟨0, rfl, by omega, by simp⟩ ?_
    rintro _ ⟨i, rfl, hi, hg⟩
    unfold M_boulterlaw24_RewriteList_L0
    simp only []
    refine W.iteP (fun hlt => ?_) (fun hge => W.ret (.inr ?_))
    · have hlt : i < x0.length := by omega
      obtain ⟨x, hx⟩ : ∃ x, x0[i]? = some x := ⟨_, List.getElem?_eq_getElem hlt⟩
      rw [ixV_nat hx, Option.bind_some]
      refine W.iteP (fun _ => W.ret (.inl rfl)) (fun hx60 => ?_)
      obtain ⟨e, a, r, he, hr⟩ := ref_good (x := x) (by omega)
      rw [he, Option.bind_some]
      simp only []
      by_cases h0 : r = 0
      · obtain ⟨k1, k2, g⟩ := hr h0
        obtain ⟨b, hb, _⟩ := g.b
        subst h0
        rw [show ((0 : Int) != 0) = false from rfl, iteB_false, show ixS x 1 = some (b.toNat : Int) from ixS_nat (i := 1) hb, Option.bind_some, Option.bind_some]
        refine W.ite (fun _ => W.ret (.inl rfl)) (fun _ => ?_)
        have hj := joinS_len (x0.take i) (fun y hy => by obtain ⟨_, _, g⟩ := hg y hy; exact g.len.2)
        have hti : (x0.take i).length = i := by rw [List.length_take]; omega
        have ht := take_snoc hx
        rw [ek64 (by omega)]
        refine W.bind (W.mono (Q := fun z => z ++ x = joinS (x0.take (i + 1)) ∧ z.length ≤ 1000) ?_ ?_)
        · refine W.iteP (fun hp => W.need (decide_eq_true (by simp; omega)) (W.ret ⟨?_, by simp; omega⟩)) (fun hn => W.ret ⟨?_, by omega⟩)
          · rw [ht, joinS_snoc _ _ (by intro h; rw [h] at hti; simp at hti; omega)]
            simp
          · have : i = 0 := by omega
            subst this
            rw [ht]; rfl
        · rintro z ⟨hz, hzl⟩
          have := g.len
          refine W.need (decide_eq_true (by omega)) (W.ret ⟨⟨i + 1, by rw [hz], by omega, fun y hy => ?_⟩, by simp only []; omega⟩)
          rw [ht, List.mem_append, List.mem_singleton] at hy
          rcases hy with hy | rfl
          · exact hg y hy
          · exact ⟨k1, k2, g⟩
      · rw [show (r != 0) = true from by rw [bne_iff_ne]; exact h0, iteB_true, Option.bind_some, iteB_true]
        exact W.ret (.inl rfl)
    · have : i = x0.length := by omega
      subst this
      rw [List.take_length] at hg
      exact ⟨by rw [List.take_length], hg⟩
  · rintro o (rfl | ⟨rfl, hg⟩)
    · exact W.ret rfl
    · simp only []
      by_cases h0 : x0 = []
      · subst h0
        have hE : M_rewrite_List (joinS []) = some ([], false) := by
          unfold M_rewrite_List
          rw [show joinS [] = [] from rfl, loop_end (r := (([] : List (List UInt8)), false)) rfl]
          rfl
        rw [hE]
        exact ⟨true, rfl, rfl⟩
      · have hpos : 0 < x0.length := List.length_pos_iff.2 h0
        have hj := joinS_len x0 (fun y hy => by obtain ⟨_, _, g⟩ := hg y hy; exact g.len.2)
        have hl := list_loop x0 [] [] h0 hg (by simp; omega) (by simp; omega)
        have hl : loop (M_rewrite_List_L0 (joinS x0)) ([], (0 : Int)) = some (x0, true) := hl
        have hL : M_rewrite_List (joinS x0) = some (x0, true) := by
          unfold M_rewrite_List
          rw [hl]; rfl
        rw [hL, Option.bind_some]
        simp only []
        rw [show ((x0.length : Int) == 0) = false from (beqN x0.length 0).trans (decide_eq_false (by omega)), iteB_false, Bool.not_true, Bool.false_or, show ((x0.length : Int) != (x0.length : Int)) = false from by rw [bne_self_eq_false], iteB_false]
        refine W.bind (W.mono (Q := fun o => o = .inl ()) ?_ ?_)
        · refine W.loop (fun st => ∃ i : Nat, st = (i : Int) ∧ i ≤ x0.length) (fun st => x0.length - st.toNat) ⟨0, rfl, by omega⟩ ?_
          rintro _ ⟨i, rfl, hi⟩
          unfold M_boulterlaw24_RewriteList_L1
          simp only []
          refine W.iteP (fun hlt => ?_) (fun hge => W.ret rfl)
          have hlt : i < x0.length := by omega
          rw [ixV_get hlt, Option.bind_some, Option.bind_some, beq_self_eq_true, Bool.not_true, iteB_false, ek64 (by omega)]
          exact W.ret ⟨⟨i + 1, rfl, by omega⟩, by omega⟩
        · rintro o rfl
          exact ⟨true, rfl, rfl⟩
end Go.Av.L
