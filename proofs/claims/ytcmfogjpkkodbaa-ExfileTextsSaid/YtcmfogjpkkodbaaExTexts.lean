/-
  ExfileTexts: what is written is told again.
-/
import Derived.Test.YtcmfogjpkkodbaaExLib2
import Derived.Test.YtcmfogjpkkodbaaKlaw31x1
namespace Go.Av.L
open Go.Av
set_option linter.unusedVariables false
set_option linter.unusedSimpArgs false

theorem contains10 (x : Str) : M_strings_Contains_s0 x = some (decide ((10 : UInt8) ∈ x)) := by
  simp only [M_strings_Contains_s0, M_strings_Index_s0, M_stringslite_Index_s0, M_stringslite_IndexByte, X_IndexByte]
  by_cases h : x = [10]
  · subst h; rfl
  · rw [show (([10] : List UInt8) == x) = false from by simpa using fun e => h e.symm, iteB_false, if_pos (by omega)]
    simp only [Option.bind_some]
    congr 1
    rw [decide_eq_decide]
    exact idxOf_mem x 10
theorem contains0 (x : Str) : M_strings_Contains_s1 x = some (decide ((0 : UInt8) ∈ x)) := by
  simp only [M_strings_Contains_s1, M_strings_Index_s1, M_stringslite_Index_s1, M_stringslite_IndexByte, X_IndexByte]
  by_cases h : x = [0]
  · subst h; rfl
  · rw [show (([0] : List UInt8) == x) = false from by simpa using fun e => h e.symm, iteB_false, if_pos (by omega)]
    simp only [Option.bind_some]
    congr 1
    rw [decide_eq_decide]
    exact idxOf_mem x 0
theorem refIn {x : Str} (hx : x.length < 1000000) {n : Nat} (hn : n < 256) : M_boulterref13_In (n : Int) x = some (decide (UInt8.ofNat n ∈ x)) := by
  refine W.eq ?_
  unfold M_boulterref13_In
  refine W.bind ?_
  refine (W.list (l := x) (enc := fun (_ : Unit) i => (i : Int)) (P := fun _ i => UInt8.ofNat n ∉ x.take i) (Q := fun r => match r with | .inl _ => UInt8.ofNat n ∉ x | .inr b => b = true ∧ UInt8.ofNat n ∈ x) ?_ ?_ () (by simp)).mono ?_
  · intro _ h
    rw [M_boulterref13_In_L0, iteB_dec, if_neg (by omega)]
    exact W.ret (by rwa [List.take_length] at h)
  · intro _ i hi h
    rw [M_boulterref13_In_L0, iteB_dec, if_pos (by omega), ixS_get hi, Option.bind_some, byte_eq hn, ek64 (by omega)]
    by_cases hb : x[i] = UInt8.ofNat n
    · rw [beq_iff_eq.2 hb]
      exact W.ret ⟨rfl, by rw [← hb]; exact List.getElem_mem hi⟩
    · rw [beq_eq_false_iff_ne.2 hb]
      refine W.ret ⟨(), rfl, ?_⟩
      rw [List.take_add_one, List.getElem?_eq_getElem hi]
      simp only [Option.toList_some, List.mem_append, List.mem_singleton, not_or]
      exact ⟨h, fun e => hb e.symm⟩
  · rintro (_ | b) h
    · exact W.ret (by symm; exact decide_eq_false h)
    · exact W.ret (by dsimp only at h ⊢; rw [h.1]; symm; exact decide_eq_true h.2)
def goodL (x : Str) : Bool := decide (x ≠ [] ∧ (10 : UInt8) ∉ x ∧ x.take 2 ≠ [92, 35])
def goodI (x : Str) : Bool := decide (x ≠ [] ∧ (0 : UInt8) ∉ x)
def pre (x : Str) : Str := if x.take 1 = [35] then 92 :: x else x
def lineT (x : Str) : Str := pre x ++ [10]
def itemT (x : Str) : Str := x ++ [0]
theorem pre_length (x : Str) : (pre x).length ≤ x.length + 1 := by unfold pre; split <;> simp
theorem flat_length {f : Str → Str} {n : Nat} : ∀ (l : List Str), (∀ x ∈ l, (f x).length ≤ n) → ((l.map f).flatten).length ≤ l.length * n
  | [], _ => by simp
  | x :: l, h => by
    have := flat_length l (fun y hy => h y (by simp [hy]))
    have hx := h x (by simp)
    simp only [List.map_cons, List.flatten_cons, List.length_append, List.length_cons, Nat.succ_mul]
    omega
theorem take_flat {f : Str → Str} {l : List Str} {i : Nat} (hi : i < l.length) : ((l.take (i + 1)).map f).flatten = ((l.take i).map f).flatten ++ f l[i] := by
  rw [List.take_add_one, List.getElem?_eq_getElem hi, List.map_append, List.flatten_append]
  simp only [Option.toList_some, List.map_cons, List.map_nil, List.flatten_cons, List.flatten_nil, List.append_nil]
theorem take_all {f : Str → Bool} {l : List Str} {i : Nat} (hi : i < l.length) : (l.take (i + 1)).all f = ((l.take i).all f && f l[i]) := by
  rw [List.take_add_one, List.getElem?_eq_getElem hi, List.all_append]
  simp only [Option.toList_some, List.all_cons, List.all_nil, Bool.and_true]
theorem all_false {f : Str → Bool} {l : List Str} {i : Nat} (hi : i < l.length) (h : f l[i] = false) : l.all f = false := by
  rw [List.all_eq_false]
  exact ⟨l[i], List.getElem_mem hi, by simp [h]⟩
theorem exText {l : List Str} (hl : l.length ≤ 20) (hx : ∀ x ∈ l, x.length ≤ 60) : M_exfile_Text l = some (if l.all goodL then ((l.map lineT).flatten, 0) else ([], 2)) := by
  refine W.eq ?_
  unfold M_exfile_Text
  refine W.bind ?_
  refine (W.list (l := l) (enc := fun (s : Str) i => (s, (i : Int))) (P := fun s i => (l.take i).all goodL = true ∧ s = ((l.take i).map lineT).flatten)
    (Q := fun r => match r with | .inl s => l.all goodL = true ∧ s = (l.map lineT).flatten | .inr z => l.all goodL = false ∧ z = ([], 2)) ?_ ?_ [] ⟨by simp, by simp⟩).mono ?_
  · rintro s ⟨h1, h2⟩
    rw [M_exfile_Text_L0, iteB_dec, if_neg (by omega)]
    rw [List.take_length] at h1 h2
    exact W.ret ⟨h1, h2⟩
  · rintro s i hi ⟨h1, h2⟩
    have hs : s.length ≤ 20 * 62 := by
      rw [h2]
      have := flat_length (f := lineT) (n := 62) (l.take i) (fun x hm => by
        have := hx x (List.mem_of_mem_take hm)
        have h3 := pre_length x
        unfold lineT; simp; omega)
      rw [List.length_take] at this
      have : min i l.length ≤ 20 := by omega
      omega
    have hxi := hx l[i] (List.getElem_mem hi)
    rw [M_exfile_Text_L0, iteB_dec, if_pos (by omega), ixV_get hi, Option.bind_some, ek64 (by omega)]
    have hc : (iteB (l[i] == ([] : List UInt8)) (some true) ((M_strings_Contains_s0 l[i]).bind fun x8 => some x8) : Option Bool) = some (decide (l[i] = [] ∨ (10 : UInt8) ∈ l[i])) := by
      rw [contains10, Option.bind_some, iteB_or]
      congr 1
      rw [Bool.eq_iff_iff]
      simp
    rw [hc, Option.bind_some, hasPrefix, Option.bind_some, iteB_or, Option.bind_some]
    have hg : (decide (l[i] = [] ∨ (10 : UInt8) ∈ l[i]) || (List.take ([92, 35] : Str).length l[i] == [92, 35])) = !goodL l[i] := by
      rw [Bool.eq_iff_iff]
      simp only [Bool.or_eq_true, decide_eq_true_eq, beq_iff_eq, goodL, Bool.not_eq_true', decide_eq_false_iff_not]
      constructor
      · rintro ((h | h) | h) ⟨k1, k2, k3⟩
        · exact k1 h
        · exact k2 h
        · exact k3 h
      · intro h
        refine Classical.byContradiction fun hn => h ?_
        simp only [not_or] at hn
        exact ⟨hn.1.1, hn.1.2, hn.2⟩
    rw [hg]
    cases hgd : goodL l[i] with
    | false => exact W.ret ⟨all_false hi hgd, rfl⟩
    | true =>
      rw [Bool.not_true, iteB_false, hasPrefix, Option.bind_some]
      have hp : (iteB (List.take ([35] : Str).length l[i] == [35]) (need (okN 1 (s.length + ([(92 : UInt8)] : List UInt8).length)) (some (s ++ ([(92 : UInt8)] : List UInt8)))) (some s) : Option Str) = some (s ++ (if l[i].take 1 = [35] then [92] else [])) := by
        by_cases h : l[i].take 1 = [35]
        · rw [if_pos h, show (List.take ([35] : Str).length l[i] == [35]) = true from by simpa using h, iteB_true, okN_of (by simp; omega) (by simp; omega), need_true]
        · rw [if_neg h, show (List.take ([35] : Str).length l[i] == [35]) = false from by simpa using h, iteB_false, List.append_nil]
      rw [hp, Option.bind_some]
      have hb : (if l[i].take 1 = [35] then ([92] : Str) else []).length ≤ 1 := by split <;> simp
      rw [decide_eq_true (by simp; omega), need_true, okN_of (by simp only [List.length_append, List.length_cons, List.length_nil]; omega) (by simp only [List.length_append, List.length_cons, List.length_nil]; omega), need_true]
      refine W.ret ⟨_, rfl, by rw [take_all hi, h1, hgd]; rfl, ?_⟩
      rw [take_flat hi, ← h2]
      unfold lineT pre
      split <;> simp
  · rintro (s | z) h
    · dsimp only at h ⊢
      exact W.ret (by rw [h.1, h.2]; rfl)
    · dsimp only at h ⊢
      exact W.ret (by rw [h.1, h.2]; rfl)
theorem exPack {l : List Str} (hl : l.length ≤ 20) (hx : ∀ x ∈ l, x.length ≤ 60) : M_exfile_Pack l = some (if l.all goodI then ((l.map itemT).flatten, 0) else ([], 2)) := by
  refine W.eq ?_
  unfold M_exfile_Pack
  refine W.bind ?_
  refine (W.list (l := l) (enc := fun (s : Str) i => (s, (i : Int))) (P := fun s i => (l.take i).all goodI = true ∧ s = ((l.take i).map itemT).flatten)
    (Q := fun r => match r with | .inl s => l.all goodI = true ∧ s = (l.map itemT).flatten | .inr z => l.all goodI = false ∧ z = ([], 2)) ?_ ?_ [] ⟨by simp, by simp⟩).mono ?_
  · rintro s ⟨h1, h2⟩
    rw [M_exfile_Pack_L0, iteB_dec, if_neg (by omega)]
    rw [List.take_length] at h1 h2
    exact W.ret ⟨h1, h2⟩
  · rintro s i hi ⟨h1, h2⟩
    have hs : s.length ≤ 20 * 61 := by
      rw [h2]
      have := flat_length (f := itemT) (n := 61) (l.take i) (fun x hm => by
        have := hx x (List.mem_of_mem_take hm)
        unfold itemT; simp; omega)
      rw [List.length_take] at this
      have : min i l.length ≤ 20 := by omega
      omega
    have hxi := hx l[i] (List.getElem_mem hi)
    rw [M_exfile_Pack_L0, iteB_dec, if_pos (by omega), ixV_get hi, Option.bind_some, ek64 (by omega)]
    rw [contains0, Option.bind_some, iteB_or, Option.bind_some]
    have hg : (l[i] == ([] : Str) || decide ((0 : UInt8) ∈ l[i])) = !goodI l[i] := by
      rw [Bool.eq_iff_iff]
      simp only [Bool.or_eq_true, decide_eq_true_eq, beq_iff_eq, goodI, Bool.not_eq_true', decide_eq_false_iff_not]
      constructor
      · rintro (h | h) ⟨k1, k2⟩
        · exact k1 h
        · exact k2 h
      · intro h
        refine Classical.byContradiction fun hn => h ?_
        simp only [not_or] at hn
        exact hn
    rw [hg]
    cases hgd : goodI l[i] with
    | false => exact W.ret ⟨all_false hi hgd, rfl⟩
    | true =>
      rw [Bool.not_true, iteB_false, decide_eq_true (by simp; omega), need_true, okN_of (by simp only [List.length_append, List.length_cons, List.length_nil]; omega) (by simp only [List.length_append, List.length_cons, List.length_nil]; omega), need_true]
      exact W.ret ⟨_, rfl, by rw [take_all hi, h1, hgd]; rfl, by rw [take_flat hi, ← h2]; rfl⟩
  · rintro (s | z) h
    · dsimp only at h ⊢
      exact W.ret (by rw [h.1, h.2]; rfl)
    · dsimp only at h ⊢
      exact W.ret (by rw [h.1, h.2]; rfl)
/-! told again -/
theorem spA_piece {c : UInt8} : ∀ (x cur t : Str), c ∉ x → spA c cur (x ++ c :: t) = (cur ++ x) :: spA c [] t
  | [], cur, t, _ => by rw [List.nil_append, spA, if_pos rfl, List.append_nil]
  | b :: x, cur, t, h => by
    simp only [List.mem_cons, not_or] at h
    rw [List.cons_append, spA, if_neg (fun e => h.1 e.symm), spA_piece x _ t h.2, List.append_assoc]; rfl
theorem sp_flat {c : UInt8} {f : Str → Str} : ∀ (l : List Str), (∀ x ∈ l, c ∉ f x) → sp c ((l.map fun x => f x ++ [c]).flatten) = l.map f ++ [[]]
  | [], _ => rfl
  | x :: l, h => by
    have ih := sp_flat l (fun y hy => h y (by simp [hy]))
    unfold sp at ih ⊢
    rw [List.map_cons, List.flatten_cons, List.append_assoc, List.singleton_append, spA_piece _ _ _ (h x (by simp)), ih]; rfl
theorem keep_pre {x : Str} (h : goodL x = true) : keep (pre x) = some x := by
  obtain ⟨h1, h2, h3⟩ := of_decide_eq_true h
  rw [keep_eq]
  unfold pre unq
  match x, h1, h3 with
  | b :: t, _, h3 =>
    by_cases hb : b = 35
    · subst hb
      simp
    · have : ¬ ((b :: t).take 1 = [35]) := by simpa using hb
      rw [if_neg this, if_neg (by simpa using hb), if_neg h3]
theorem keeps_text {l : List Str} (h : l.all goodL = true) : keeps (sp 10 ((l.map lineT).flatten)) = l := by
  rw [List.all_eq_true] at h
  have := sp_flat (c := 10) (f := pre) l (fun x hx => by
    obtain ⟨h1, h2, h3⟩ := of_decide_eq_true (h x hx)
    unfold pre
    split
    · simp only [List.mem_cons, not_or]; exact ⟨by decide, h2⟩
    · exact h2)
  show keeps (sp 10 ((l.map fun x => pre x ++ [10]).flatten)) = l
  rw [this]
  unfold keeps
  rw [List.filterMap_append]
  have e : ([[]] : List Str).filterMap keep = [] := rfl
  rw [e, List.append_nil, List.filterMap_map]
  clear this
  induction l with
  | nil => rfl
  | cons x l ih =>
    have ex : (keep ∘ pre) x = some x := keep_pre (h x (by simp))
    rw [List.filterMap_cons, ex]
    dsimp only
    rw [ih (fun y hy => h y (by simp [hy]))]
theorem full_pack {l : List Str} (h : l.all goodI = true) : full (sp 0 ((l.map itemT).flatten)) = l := by
  rw [List.all_eq_true] at h
  have := sp_flat (c := 0) (f := id) l (fun x hx => (of_decide_eq_true (h x hx)).2)
  show full (sp 0 ((l.map fun x => x ++ [0]).flatten)) = l
  rw [List.map_id] at this
  simp only [id] at this
  rw [this]
  clear this
  induction l with
  | nil => rfl
  | cons x l ih =>
    rw [List.cons_append, full_cons]
    have hx : (x == ([] : Str)) = false := by rw [beq_eq_false_iff_ne]; exact (of_decide_eq_true (h x (by simp))).1
    rw [hx, cond_false, ih (fun y hy => h y (by simp [hy]))]
/-! ████ the law ████ -/
theorem law_loop {l : List Str} (hl : l.length ≤ 20) (kx : ∀ x ∈ l, okT x) : W (loop (M_boulterlaw31_ExfileTexts_L0 l) (true, true, 0)) fun r => match r with | .inl (a, b) => (∀ x ∈ l, x.length ≤ 60) ∧ a = l.all goodL ∧ b = l.all goodI | .inr z => z = true := by
  refine W.list (l := l) (enc := fun (s : Bool × Bool) i => (s.1, s.2, (i : Int))) (P := fun s i => (∀ x ∈ l.take i, x.length ≤ 60) ∧ s.1 = (l.take i).all goodL ∧ s.2 = (l.take i).all goodI) ?_ ?_ (true, true) ⟨by simp, by simp, by simp⟩
  · rintro ⟨a, b⟩ ⟨h1, h2, h3⟩
    rw [M_boulterlaw31_ExfileTexts_L0, iteB_dec, if_neg (by omega)]
    rw [List.take_length] at h1 h2 h3
    exact W.ret ⟨h1, h2, h3⟩
  · rintro ⟨a, b⟩ i hi ⟨h1, h2, h3⟩
    dsimp only at h2 h3 ⊢
    rw [M_boulterlaw31_ExfileTexts_L0, iteB_dec, if_pos (by omega), ixV_get hi, Option.bind_some, ek64 (by omega), iteB_dec]
    by_cases h6 : (l[i].length : Int) > 60
    · rw [if_pos h6]; exact W.ret rfl
    rw [if_neg h6]
    have e1 : (iteB (a && !(l[i] == ([] : List UInt8))) ((M_boulterref13_In (10 : Int) l[i]).bind fun x11 => some (!x11)) (some false) : Option Bool) = some (a && (!(l[i] == ([] : Str)) && !decide ((10 : UInt8) ∈ l[i]))) := by
      have := refIn (x := l[i]) (n := 10) (by omega) (by decide)
      rw [show ((10 : Nat) : Int) = 10 from rfl] at this
      rw [this, Option.bind_some, iteB_and, Bool.and_assoc]; rfl
    have e2 : (iteB (b && !(l[i] == ([] : List UInt8))) ((M_boulterref13_In (0 : Int) l[i]).bind fun x11 => some (!x11)) (some false) : Option Bool) = some (b && goodI l[i]) := by
      have := refIn (x := l[i]) (n := 0) (by omega) (by decide)
      rw [show ((0 : Nat) : Int) = 0 from rfl] at this
      rw [this, Option.bind_some, iteB_and, Bool.and_assoc]
      congr 2
      rw [Bool.eq_iff_iff]
      simp [goodI]
    rw [e1, Option.bind_some, e2]
    have e3 : ((iteB (decide ((l[i].length : Int) > (1 : Int))) ((ixS l[i] (0 : Int)).bind fun x14 => some (x14 == (92 : Int))) (some false) : Option (Bool)).bind fun x13 => (iteB x13 ((ixS l[i] (1 : Int)).bind fun x16 => some (x16 == (35 : Int))) (some false) : Option (Bool)).bind fun x15 => some (!x15)) = some (!decide (l[i].take 2 = [92, 35])) := by
      rw [← Option.bind_assoc, two_eq]; rfl
    rw [e3, iteB_and, Option.bind_some, Option.bind_some]
    refine W.ret ⟨((a && (!(l[i] == ([] : Str)) && !decide ((10 : UInt8) ∈ l[i]))) && !decide (l[i].take 2 = [92, 35]), b && goodI l[i]), rfl, fun x hm => ?_, ?_, ?_⟩
    · rw [List.take_add_one, List.getElem?_eq_getElem hi] at hm
      rcases List.mem_append.1 hm with hm | hm
      · exact h1 x hm
      · simp at hm; subst hm; omega
    · show ((a && (!(l[i] == ([] : Str)) && !decide ((10 : UInt8) ∈ l[i]))) && !decide (l[i].take 2 = [92, 35])) = _
      rw [take_all hi, ← h2, Bool.eq_iff_iff]
      simp only [Bool.and_eq_true, Bool.not_eq_true', beq_eq_false_iff_ne, decide_eq_false_iff_not, goodL, decide_eq_true_eq]
      constructor
      · rintro ⟨⟨k1, k2, k3⟩, k4⟩; exact ⟨k1, k2, k3, k4⟩
      · rintro ⟨k1, k2, k3, k4⟩; exact ⟨⟨k1, k2, k3⟩, k4⟩
    · show (b && goodI l[i]) = _
      rw [take_all hi, ← h3]
theorem lawExfileTexts (l : List Str) (kl : okL okT l) : M_boulterlaw31_ExfileTexts l = some true := by
  refine W.eq ?_
  unfold M_boulterlaw31_ExfileTexts
  rw [iteB_dec]
  split
  · exact W.ret rfl
  rename_i hl
  have hl : l.length ≤ 20 := by omega
  refine W.bind ((law_loop hl kl.2).mono ?_)
  rintro (⟨a, b⟩ | z) h
  · obtain ⟨hx, ha, hb⟩ := h
    have tl : ((l.map lineT).flatten).length ≤ 20 * 62 := by
      have := flat_length (f := lineT) (n := 62) l (fun x hm => by
        have := hx x hm
        have h3 := pre_length x
        unfold lineT; simp; omega)
      omega
    have pl : ((l.map itemT).flatten).length ≤ 20 * 61 := by
      have := flat_length (f := itemT) (n := 61) l (fun x hm => by
        have := hx x hm
        unfold itemT; simp; omega)
      omega
    dsimp only
    rw [exText hl hx, Option.bind_some, exPack hl hx, Option.bind_some, ← ha, ← hb]
    have hi : ∀ (z : Option Bool) (k : Bool → Option Bool), b = true → ((M_boulterref31_Items ((l.map itemT).flatten)).bind fun x25 => (M_boulterref26_Same_s0 x25 l).bind fun x26 => some (!x26)) = some false := fun _ _ hbt => by
      rw [refItemsS (by omega), Option.bind_some, full_pack (by rw [← hb]; exact hbt), refSame (by omega)]
      simp
    have ht : a = true → M_boulterref31_Lines ((l.map lineT).flatten) = some l ∧ M_exfile_Lines ((l.map lineT).flatten) = some l := fun hat => by
      rw [refLinesS (by omega), exLines (by omega), keeps_text (by rw [← ha]; exact hat)]
      exact ⟨rfl, rfl⟩
    have hs : M_boulterref26_Same_s0 l l = some true := by rw [refSame (by omega)]; simp
    have key : ∀ p : Str × Int, p = (if b = true then ((l.map itemT).flatten, 0) else ([], 2)) →
        ((iteB (!(b == (p.2 == (0 : Int)))) (some true) ((iteB b ((M_boulterref31_Items p.1).bind fun x25 => (M_boulterref26_Same_s0 x25 l).bind fun x26 => some (!x26)) (some false) : Option (Bool)).bind fun x24 => some x24) : Option (Bool)) = some false) ∧ ((!b) && ((!(p.1 == ([] : List UInt8))) || (p.2 != (2 : Int)))) = false := by
      intro p hp
      cases b with
      | true => subst hp; simp only [if_true]; rw [hi none some rfl]; exact ⟨rfl, rfl⟩
      | false => subst hp; exact ⟨rfl, rfl⟩
    obtain ⟨k1, k2⟩ := key _ rfl
    rw [k1, Option.bind_some, k2]
    simp only [Bool.or_false, iteB_false]
    cases a with
    | true =>
      obtain ⟨t1, t2⟩ := ht rfl
      simp only [if_true, Bool.not_true, iteB_false, t1, t2, hs, Option.bind_some, beq_self_eq_true, iteB_true, M_boulterlaw31_awake]
      exact W.ret rfl
    | false => exact W.ret rfl
  · exact W.ret h
end Go.Av.L
