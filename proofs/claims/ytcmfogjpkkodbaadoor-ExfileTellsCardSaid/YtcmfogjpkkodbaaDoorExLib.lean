/-
  Exfile: what the functions of the chapter tell, in plain words.
-/
import Derived.Test.YtcmfogjpkkodbaaDoorAvNum
import Derived.Test.YtcmfogjpkkodbaaDoorKexfile
import Derived.Test.YtcmfogjpkkodbaaDoorKref31
import Derived.Test.YtcmfogjpkkodbaaDoorKref26
namespace Go.Av.L
open Go.Av
set_option linter.unusedVariables false
set_option linter.unusedSimpArgs false

abbrev Str := List UInt8
/-! texts -/
theorem hasPrefix (p q : Str) : M_strings_HasPrefix p q = some (p.take q.length == q) := by
  simp only [M_strings_HasPrefix, M_stringslite_HasPrefix]
  rw [iteB_dec]
  by_cases h : q.length ≤ p.length
  · rw [if_pos (by omega), subS_hi h]; rfl
  · rw [if_neg (by omega)]
    have : (p.take q.length == q) = false := by
      rw [beq_eq_false_iff_ne]
      intro he
      have := congrArg List.length he
      rw [List.length_take] at this
      omega
    rw [this]; rfl
def trimN (p : Str) : Str := if p.getLast? = some 10 then p.dropLast else p
theorem hasSuffix1 {p : Str} {c : UInt8} (hp : p.length < 4611686018427387904) : M_stringslite_HasSuffix p [c] = some (decide (p.getLast? = some c)) := by
  simp only [M_stringslite_HasSuffix]
  rw [iteB_dec]
  by_cases h : p = []
  · subst h; rfl
  · obtain ⟨q, b, rfl⟩ : ∃ q b, p = q ++ [b] := ⟨_, _, (List.dropLast_concat_getLast h).symm⟩
    have e : IntKind.i64.wrap (((q ++ [b]).length : Int) - (([c] : Str).length : Int)) = ((q.length : Nat) : Int) := by
      simp only [List.length_append, List.length_cons, List.length_nil] at hp ⊢
      rw [w64 (by omega) (by omega)]; omega
    rw [if_pos (by simp only [List.length_append, List.length_cons, List.length_nil]; omega), e, subS_lo (by simp)]
    simp only [List.drop_left, Option.bind_some, List.getLast?_append, List.getLast?_singleton, Option.some_or]
    congr 1
    rw [Bool.eq_iff_iff, beq_iff_eq, decide_eq_true_iff]
    simp
theorem trimSuffix {p : Str} (hp : p.length < 4611686018427387904) : M_strings_TrimSuffix p [10] = some (trimN p) := by
  simp only [M_strings_TrimSuffix, M_stringslite_TrimSuffix]
  rw [hasSuffix1 hp, Option.bind_some, iteB_dec]
  unfold trimN
  split
  · rename_i h
    have hl : 0 < p.length := List.length_pos_iff.2 (by rintro rfl; simp at h)
    have e : IntKind.i64.wrap ((p.length : Int) - (([10] : Str).length : Int)) = ((p.length - 1 : Nat) : Int) := by
      rw [w64 (by simp; omega) (by simp; omega)]; simp; omega
    rw [e, subS_hi (by omega), List.dropLast_eq_take]; rfl
  · rfl
/-! pieces -/
/-- the pieces between the bytes c; 'cur' stands ahead -/
def spA (c : UInt8) : Str → Str → List Str
  | cur, [] => [cur]
  | cur, b :: t => if b = c then cur :: spA c [] t else spA c (cur ++ [b]) t
def sp (c : UInt8) (s : Str) : List Str := spA c [] s
theorem spA_length (c : UInt8) : ∀ (t cur : Str), (spA c cur t).length ≤ t.length + 1
  | [], cur => by simp [spA]
  | b :: t, cur => by
    rw [spA]
    split
    · have := spA_length c t []; simp only [List.length_cons]; omega
    · have := spA_length c t (cur ++ [b]); simp only [List.length_cons]; omega
theorem refParts {p : Str} (hp : p.length < 1000000) {n : Nat} (hn : n < 256) : M_boulterref31_parts p (n : Int) = some (sp (UInt8.ofNat n) p) := by
  refine W.eq ?_
  unfold M_boulterref31_parts
  refine W.bind ?_
  refine (W.list (l := p) (enc := fun (s : List Str × Nat) i => (s.1, (s.2 : Int), (i : Int))) (P := fun s i => s.2 ≤ i ∧ s.1.length ≤ i ∧ s.1 ++ spA (UInt8.ofNat n) ((p.drop s.2).take (i - s.2)) (p.drop i) = sp (UInt8.ofNat n) p)
    (Q := fun r => ∃ k : Nat, k ≤ p.length ∧ r.2 = (k : Int) ∧ r.1.length ≤ p.length ∧ r.1 ++ [p.drop k] = sp (UInt8.ofNat n) p) ?_ ?_ ([], 0) ⟨by simp, by simp, by simp [sp]⟩).mono ?_
  · rintro ⟨acc, st⟩ ⟨h1, h2, h3⟩
    dsimp only at h1 h2 h3 ⊢
    rw [M_boulterref31_parts_L0, iteB_dec, if_neg (by omega)]
    refine W.ret ⟨st, h1, rfl, h2, ?_⟩
    rw [← h3, List.drop_length, spA, List.take_of_length_le (by simp)]
  · rintro ⟨acc, st⟩ i hi ⟨h1, h2, h3⟩
    dsimp only at h1 h2 h3 ⊢
    rw [M_boulterref31_parts_L0, iteB_dec, if_pos (by omega), ixS_get hi, Option.bind_some, byte_eq hn, ek64 (by omega)]
    rw [drop_cons hi, spA] at h3
    by_cases hb : p[i] = UInt8.ofNat n
    · rw [if_pos hb] at h3
      rw [beq_iff_eq.2 hb, iteB_true, subS_both h1 (by omega), Option.bind_some, okN_of (by simp; omega) (by simp; omega), need_true]
      refine W.ret ⟨(acc ++ [(p.drop st).take (i - st)], i + 1), rfl, by simp, by simp; omega, ?_⟩
      rw [← h3]; simp
    · rw [if_neg hb] at h3
      rw [beq_eq_false_iff_ne.2 hb, iteB_false]
      refine W.ret ⟨(acc, st), rfl, by dsimp only; omega, by dsimp only; omega, ?_⟩
      rw [← h3]
      dsimp only
      have e : (p.drop st).take (i + 1 - st) = (p.drop st).take (i - st) ++ [p[i]] := by
        rw [show i + 1 - st = (i - st) + 1 by omega, List.take_add_one, List.getElem?_drop, show st + (i - st) = i by omega, List.getElem?_eq_getElem hi]
        rfl
      rw [e]
  · rintro ⟨acc, z⟩ ⟨k, h1, h2, h3, h4⟩
    dsimp only at h2 h3 h4 ⊢
    rw [h2, subS_lo h1, Option.bind_some, okN_of (by simp; omega) (by simp; omega), need_true]
    exact W.ret h4
/-! lines that count -/
def keep (x : Str) : Option Str := if x = [] ∨ x.head? = some 35 then none else if x.take 2 = [92, 35] then some (x.drop 1) else some x
def keeps (l : List Str) : List Str := l.filterMap keep
theorem keeps_length (l : List Str) : (keeps l).length ≤ l.length := List.length_filterMap_le _ _
theorem keeps_cons (x : Str) (l : List Str) : keeps (x :: l) = (keep x).toList ++ keeps l := by
  unfold keeps
  rw [List.filterMap_cons]
  cases keep x <;> rfl
/-- one more, if it counts -/
theorem skip_eq (x : Str) :
    ((iteB (x == ([] : List UInt8)) (some true) ((ixS x (0 : Int)).bind fun x8 => some (x8 == (35 : Int))) : Option Bool) = some (decide (x = [] ∨ x.head? = some 35))) := by
  cases x with
  | nil => rfl
  | cons b t =>
    rw [ixS_head, Option.bind_some, show (35 : Int) = ((35 : Nat) : Int) from rfl, byte_eq (by decide)]
    show some _ = some _
    congr 1
    rw [Bool.eq_iff_iff, beq_iff_eq, decide_eq_true_iff]
    simp
def unq (x : Str) : Str := if x.take 2 = [92, 35] then x.drop 1 else x
theorem two_eq (x : Str) : ((iteB (decide ((x.length : Int) > (1 : Int))) ((ixS x (0 : Int)).bind fun x11 => some (x11 == (92 : Int))) (some false) : Option (Bool)).bind fun x10 => (iteB x10 ((ixS x (1 : Int)).bind fun x13 => some (x13 == (35 : Int))) (some false) : Option (Bool))) = some (decide (x.take 2 = [92, 35])) := by
  match x with
  | [] => rfl
  | [b] =>
    have : ¬ (List.take 2 [b] = [92, 35]) := by simp
    rw [decide_eq_false this]; rfl
  | b :: c :: t =>
    rw [iteB_dec, if_pos (by simp only [List.length_cons]; omega), ixS_head, Option.bind_some, show (92 : Int) = ((92 : Nat) : Int) from rfl, byte_eq (by decide), Option.bind_some]
    show iteB _ ((some (c.toNat : Int)).bind _) _ = _
    rw [Option.bind_some, show (35 : Int) = ((35 : Nat) : Int) from rfl, byte_eq (by decide)]
    show iteB (b == 92) (some (c == 35)) (some false) = some (decide ([b, c] = [92, 35]))
    rw [iteB_and]
    congr 1
    rw [Bool.eq_iff_iff, Bool.and_eq_true, beq_iff_eq, beq_iff_eq, decide_eq_true_iff]
    simp
theorem keep_eq (x : Str) : keep x = if x = [] ∨ x.head? = some 35 then none else some (unq x) := by
  unfold keep unq
  split
  · rfl
  · split <;> rfl
theorem drop1 {x : Str} (h : x.take 2 = [92, 35]) : subS x (some (1 : Int)) none = some (x.drop 1) := by
  have : 1 ≤ x.length := by
    have := congrArg List.length h
    rw [List.length_take] at this
    simp at this; omega
  exact subS_lo (i := 1) this
theorem refLines {l : List Str} (hl : l.length < 1000000) : loop (M_boulterref31_Lines_L0 l) ([], 0) = some (keeps l) := by
  refine W.eq ?_
  refine W.list (l := l) (enc := fun (s : List Str) i => (s, (i : Int))) (P := fun s i => s.length ≤ i ∧ s ++ keeps (l.drop i) = keeps l) ?_ ?_ [] ⟨by simp, by simp⟩
  · rintro acc ⟨h1, h2⟩
    rw [M_boulterref31_Lines_L0, iteB_dec, if_neg (by omega)]
    refine W.ret ?_
    rw [List.drop_length] at h2
    simpa [keeps] using h2
  · rintro acc i hi ⟨h1, h2⟩
    rw [drop_cons hi, keeps_cons] at h2
    rw [M_boulterref31_Lines_L0, iteB_dec, if_pos (by omega), ixV_get hi, Option.bind_some, ek64 (by omega)]
    generalize l[i] = x at h2
    rw [skip_eq, Option.bind_some, iteB_dec, keep_eq] at *
    split
    · rename_i hk
      rw [if_pos hk] at h2
      exact W.ret ⟨acc, rfl, by omega, by simpa using h2⟩
    · rename_i hk
      rw [if_neg hk] at h2
      have e : (((iteB (decide ((x.length : Int) > (1 : Int))) ((ixS x (0 : Int)).bind fun x11 => some (x11 == (92 : Int))) (some false) : Option (Bool)).bind fun x10 => (iteB x10 ((ixS x (1 : Int)).bind fun x13 => some (x13 == (35 : Int))) (some false) : Option (Bool)).bind fun x12 => iteB x12 ((subS x (some (1 : Int)) none).bind fun x14 => some x14) (some x) : Option (List UInt8))) = some (unq x) := by
        have := two_eq x
        rw [← Option.bind_assoc, this, Option.bind_some, iteB_dec]
        unfold unq
        split
        · rename_i h; rw [drop1 h]; rfl
        · rfl
      rw [e, Option.bind_some, okN_of (by simp; omega) (by simp; omega), need_true, Option.bind_some]
      exact W.ret ⟨acc ++ [unq x], rfl, by simp; omega, by simpa using h2⟩
theorem refLinesS {p : Str} (hp : p.length < 900000) : M_boulterref31_Lines p = some (keeps (sp 10 p)) := by
  unfold M_boulterref31_Lines
  have h1 := refParts (p := p) (n := 10) (by omega) (by decide)
  rw [show ((10 : Nat) : Int) = 10 from rfl] at h1
  have h2 := spA_length (UInt8.ofNat 10) p []
  rw [h1, Option.bind_some, refLines (by unfold sp; omega)]
  rfl
/-! items -/
def full (l : List Str) : List Str := l.filter fun x => !(x == [])
theorem full_cons (x : Str) (l : List Str) : full (x :: l) = bif x == [] then full l else x :: full l := by
  unfold full
  rw [List.filter_cons]
  cases (x == ([] : Str)) <;> rfl
theorem refItems {l : List Str} (hl : l.length < 1000000) : loop (M_boulterref31_Items_L0 l) ([], 0) = some (full l) := by
  refine W.eq ?_
  refine W.list (l := l) (enc := fun (s : List Str) i => (s, (i : Int))) (P := fun s i => s.length ≤ i ∧ s ++ full (l.drop i) = full l) ?_ ?_ [] ⟨by simp, by simp⟩
  · rintro acc ⟨h1, h2⟩
    rw [M_boulterref31_Items_L0, iteB_dec, if_neg (by omega)]
    refine W.ret ?_
    rw [List.drop_length] at h2
    simpa [full] using h2
  · rintro acc i hi ⟨h1, h2⟩
    rw [drop_cons hi] at h2
    rw [M_boulterref31_Items_L0, iteB_dec, if_pos (by omega), ixV_get hi, Option.bind_some, ek64 (by omega)]
    generalize l[i] = x at h2
    rw [full_cons] at h2
    cases hx : (x == ([] : Str)) with
    | true =>
      rw [hx] at h2
      exact W.ret ⟨acc, rfl, by omega, by simpa using h2⟩
    | false =>
      rw [hx] at h2
      simp only [Bool.not_false, iteB_true, Option.bind_some]
      rw [okN_of (by simp; omega) (by simp; omega), need_true, Option.bind_some]
      exact W.ret ⟨acc ++ [x], rfl, by simp; omega, by simpa using h2⟩
theorem refItemsS {p : Str} (hp : p.length < 900000) : M_boulterref31_Items p = some (full (sp 0 p)) := by
  unfold M_boulterref31_Items
  have h1 := refParts (p := p) (n := 0) (by omega) (by decide)
  rw [show ((0 : Nat) : Int) = 0 from rfl] at h1
  have h2 := spA_length (UInt8.ofNat 0) p []
  rw [h1, Option.bind_some, refItems (by unfold sp; omega)]
  rfl
/-! lists that are the same -/
theorem refSame {a b : List Str} (ha : a.length < 1000000) : M_boulterref26_Same_s0 a b = some (decide (a = b)) := by
  unfold M_boulterref26_Same_s0
  rw [iteB_bne]
  by_cases hl : (a.length : Int) = (b.length : Int)
  · rw [if_pos hl]
    have hl' : a.length = b.length := by omega
    refine W.eq ?_
    refine W.bind ?_
    refine (W.list (l := a) (enc := fun (_ : Unit) i => (i : Int)) (P := fun _ i => a.take i = b.take i) (Q := fun r => match r with | .inl _ => a = b | .inr x => x = decide (a = b)) ?_ ?_ () (by simp)).mono ?_
    · intro _ h
      rw [M_boulterref26_Same_s0_L0, iteB_dec, if_neg (by omega)]
      refine W.ret ?_
      rw [List.take_length, hl', List.take_length] at h
      exact h
    · intro _ i hi h
      rw [M_boulterref26_Same_s0_L0, iteB_dec, if_pos (by omega), ixV_get hi, Option.bind_some, ixV_get (by omega), Option.bind_some, ek64 (by omega)]
      by_cases hx : a[i] = b[i]'(by omega)
      · have : (a[i] == b[i]'(by omega)) = true := by simpa using hx
        rw [this]
        refine W.ret ⟨(), rfl, ?_⟩
        rw [List.take_add_one, List.take_add_one, h, List.getElem?_eq_getElem hi, List.getElem?_eq_getElem (show i < b.length by omega), hx]
      · have : (a[i] == b[i]'(by omega)) = false := by simpa using hx
        rw [this]
        refine W.ret ?_
        dsimp only
        symm
        rw [decide_eq_false_iff_not]
        rintro rfl
        exact hx rfl
    · rintro (_ | x) h
      · dsimp only at h ⊢
        exact W.ret (by simp [h])
      · exact W.ret h
  · rw [if_neg hl]
    have : a ≠ b := by rintro rfl; exact hl rfl
    simp [this]
end Go.Av.L
