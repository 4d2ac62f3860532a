/-
  Feed: what its functions do, told by the chunks that wait.
-/
import Derived.Test.YteeaeioplbameaaKAll
import Derived.Test.YteeaeioplbameaaAvNum
namespace Go.Av.L
open Go.Av Go.Lib
set_option linter.unusedVariables false
set_option linter.unusedSimpArgs false

abbrev Fd := S_feed_Feed
def chs (now : List UInt8) (wait : List (List UInt8)) : List (List UInt8) := if now = [] then wait else now :: wait
abbrev S_feed_Feed.cs (f : S_feed_Feed) : List (List UInt8) := chs f.now_ f.wait_
structure OkF (f : Fd) : Prop where
  ne : ∀ x ∈ f.wait_, x ≠ []
  sz : f.size_ = (f.cs.flatten.length : Int)
  len : f.cs.length ≤ 64
  big : ∀ x ∈ f.cs, x.length ≤ 65536
theorem chs_flat (now : List UInt8) (wait : List (List UInt8)) : (chs now wait).flatten = now ++ wait.flatten := by
  unfold chs; split
  · rename_i h; rw [h]; rfl
  · rfl
theorem flat_le (l : List (List UInt8)) (h : ∀ x ∈ l, x.length ≤ 65536) : l.flatten.length ≤ l.length * 65536 := by
  induction l with
  | nil => simp
  | cons x l ih =>
    have h1 := h x (by simp)
    have h2 := ih fun y hy => h y (by simp [hy])
    simp only [List.flatten_cons, List.length_append, List.length_cons]
    omega
theorem OkF.tot {f : Fd} (h : OkF f) : f.cs.flatten.length ≤ 4194304 := by
  have := flat_le f.cs h.big
  have := h.len
  omega
theorem OkF.chNe {f : Fd} (h : OkF f) : ∀ x ∈ f.cs, x ≠ [] := by
  intro x hx
  unfold S_feed_Feed.cs chs at hx
  split at hx
  · exact h.ne x hx
  · rename_i hn
    rcases List.mem_cons.1 hx with rfl | hx
    · exact hn
    · exact h.ne x hx

theorem chunksL (f : Fd) (h : OkF f) : M_feed_Feed_Chunks_sPCH f = some (f.cs.length : Int) := by
  have h3 := h.len
  unfold M_feed_Feed_Chunks_sPCH
  cases hn : f.now_ with
  | nil =>
    simp only [beq_self_eq_true, Bool.not_true, iteB_false, Option.bind_some, S_feed_Feed.cs, chs, hn, if_true]
  | cons b t =>
    have : ((b :: t) == ([] : List UInt8)) = false := rfl
    simp only [this, Bool.not_false, iteB_true, Option.bind_some, S_feed_Feed.cs, chs, hn, if_neg (List.cons_ne_nil b t), List.length_cons]
    simp only [S_feed_Feed.cs, chs, hn, if_neg (List.cons_ne_nil b t), List.length_cons] at h3
    rw [w64 (by omega) (by omega)]
    simp

/-- what Put tells -/
def PutQ (f : Fd) (p : List UInt8) (r : Int × S_feed_Feed × List (List UInt8)) : Prop :=
  r.2.2 = r.2.1.wait_ ∧
  if 65536 < p.length then r.1 = 12 ∧ r.2.1 = f else if f.closed_ = true then r.1 = 10 ∧ r.2.1 = f else if p = [] then r.1 = 0 ∧ r.2.1 = f else if 64 ≤ f.cs.length then r.1 = 8 ∧ r.2.1 = f
  else r.1 = 0 ∧ r.2.1.closed_ = f.closed_ ∧ r.2.1.cs = f.cs ++ [p] ∧ OkF r.2.1
theorem putL (f : Fd) (p : List UInt8) (h : OkF f) : W (M_feed_Feed_Put_sPCHO f p) (PutQ f p) := by
  unfold M_feed_Feed_Put_sPCHO
  refine W.iteP (fun h1 => W.ret ⟨rfl, ?_⟩) fun h1 => W.ite (fun h2 => W.ret ⟨rfl, ?_⟩) fun h2 => W.ite (fun h3 => W.ret ⟨rfl, ?_⟩) fun h3 => ?_
  · rw [if_pos (by omega)]; exact ⟨rfl, rfl⟩
  · rw [if_neg (by omega), if_pos h2]; exact ⟨rfl, rfl⟩
  · have hp : p = [] := by
      have : (p.length : Int) = 0 := by simpa using h3
      exact List.eq_nil_of_length_eq_zero (by omega)
    rw [if_neg (by omega), if_neg (by rw [h2]; simp), if_pos hp]; exact ⟨rfl, rfl⟩
  · have hp : p ≠ [] := by
      intro e; subst e; simp at h3
    rw [chunksL f h, Option.bind_some]
    refine W.iteP (fun h4 => W.ret ⟨rfl, ?_⟩) fun h4 => ?_
    · rw [if_neg (by omega), if_neg (by rw [h2]; simp), if_neg hp, if_pos (by omega)]; exact ⟨rfl, rfl⟩
    · have hlen : f.cs.length < 64 := by omega
      have hw : f.wait_.length ≤ f.cs.length := by unfold S_feed_Feed.cs chs; split <;> simp
      have hb : Nat.blt f.wait_.length 64 = true := by rw [Nat.blt_eq]; omega
      rw [hb, iteB_true]
      refine W.ret ⟨rfl, ?_⟩
      have hcs : (chs f.now_ (f.wait_ ++ [p])) = f.cs ++ [p] := by
        unfold S_feed_Feed.cs chs; split <;> simp
      have htot := h.tot
      rw [if_neg (by omega), if_neg (by rw [h2]; simp), if_neg hp, if_neg (by omega)]
      refine ⟨rfl, rfl, hcs, ⟨fun x hx => ?_, ?_, ?_, fun x hx => ?_⟩⟩
      · rcases List.mem_append.1 hx with hx | hx
        · exact h.ne x hx
        · rw [List.mem_singleton.1 hx]; exact hp
      · show IntKind.i64.wrap (f.size_ + (p.length : Int)) = ((chs f.now_ (f.wait_ ++ [p])).flatten.length : Int)
        rw [hcs, h.sz, w64 (by omega) (by omega)]
        simp
      · show (chs f.now_ (f.wait_ ++ [p])).length ≤ 64
        rw [hcs]; simp; omega
      · have hx : x ∈ f.cs ++ [p] := by rw [← hcs]; exact hx
        rcases List.mem_append.1 hx with hx | hx
        · exact h.big x hx
        · rw [List.mem_singleton.1 hx]; omega

/-- chunks without their first bytes -/
def dropL : List (List UInt8) → Nat → List (List UInt8)
  | [], _ => []
  | x :: l, n => if n < x.length then x.drop n :: l else dropL l (n - x.length)
theorem dropL_zero : ∀ (l : List (List UInt8)), (∀ x ∈ l, x ≠ []) → dropL l 0 = l
  | [], _ => rfl
  | x :: l, h => by
    have : 0 < x.length := List.length_pos_iff.2 (h x (by simp))
    simp [dropL, this]
theorem dropL_add : ∀ (l : List (List UInt8)), (∀ x ∈ l, x ≠ []) → ∀ a b, dropL (dropL l a) b = dropL l (a + b)
  | [], _, a, b => rfl
  | x :: l, h, a, b => by
    have ih := dropL_add l (fun y hy => h y (by simp [hy]))
    by_cases h1 : a < x.length
    · simp only [dropL, if_pos h1]
      by_cases h2 : a + b < x.length
      · rw [if_pos (by simp; omega), if_pos h2, List.drop_drop]
      · rw [if_neg (by simp; omega), if_neg h2]
        congr 1; simp; omega
    · simp only [dropL, if_neg h1, if_neg (show ¬ a + b < x.length by omega)]
      rw [ih]; congr 1; omega
theorem dropL_ne : ∀ (l : List (List UInt8)) (n : Nat), (∀ x ∈ l, x ≠ []) → ∀ x ∈ dropL l n, x ≠ []
  | [], _, _ => fun x hx => by simp [dropL] at hx
  | y :: l, n, h => by
    unfold dropL
    split
    · rename_i hn
      intro x hx
      rcases List.mem_cons.1 hx with rfl | hx
      · intro e; have := congrArg List.length e; simp at this; omega
      · exact h x (by simp [hx])
    · exact dropL_ne l _ fun z hz => h z (by simp [hz])
theorem dropL_all : ∀ (l : List (List UInt8)) (n : Nat), l.flatten.length ≤ n → (∀ x ∈ l, x ≠ []) → dropL l n = []
  | [], _, _, _ => rfl
  | x :: l, n, h, hn => by
    simp only [List.flatten_cons, List.length_append] at h
    have : 0 < x.length := List.length_pos_iff.2 (hn x (by simp))
    simp only [dropL, if_neg (show ¬ n < x.length by omega)]
    exact dropL_all l _ (by omega) fun y hy => hn y (by simp [hy])
theorem dropL_flat : ∀ (l : List (List UInt8)) (n : Nat), (dropL l n).flatten = l.flatten.drop n
  | [], n => by simp [dropL]
  | x :: l, n => by
    unfold dropL
    split
    · rename_i h; rw [List.flatten_cons, List.flatten_cons, List.drop_append_of_le_length (by omega)]
    · rename_i h
      rw [dropL_flat l, List.flatten_cons, List.drop_append, List.drop_eq_nil_of_le (show x.length ≤ n by omega), List.nil_append]
theorem dropL_len : ∀ (l : List (List UInt8)) (n : Nat), (dropL l n).length ≤ l.length
  | [], n => by simp [dropL]
  | x :: l, n => by
    unfold dropL
    split
    · simp
    · have := dropL_len l (n - x.length); simp; omega
theorem dropL_big : ∀ (l : List (List UInt8)) (n : Nat), (∀ x ∈ l, x.length ≤ 65536) → ∀ x ∈ dropL l n, x.length ≤ 65536
  | [], _, _ => fun x hx => by simp [dropL] at hx
  | y :: l, n, h => by
    unfold dropL
    split
    · intro x hx
      rcases List.mem_cons.1 hx with rfl | hx
      · have := h y (by simp); simp; omega
      · exact h x (by simp [hx])
    · exact dropL_big l _ fun z hz => h z (by simp [hz])

/-- what Some tells -/
def SomeQ (f : Fd) (n : Int) (r : List UInt8 × S_feed_Feed × List (List UInt8)) : Prop :=
  r.2.2 = r.2.1.wait_ ∧ r.1 = f.cs.flatten.take n.toNat ∧ r.2.1.closed_ = f.closed_ ∧ r.2.1.cs = dropL f.cs n.toNat ∧ OkF r.2.1
theorem someL (f : Fd) (n : Int) (h : OkF f) (hn : n ≤ 9223372036854775807) : W (M_feed_Feed_Some_sPCHI f n) (SomeQ f n) := by
  unfold M_feed_Feed_Some_sPCHI
  have htot := h.tot
  have hne := h.chNe
  generalize hT : f.cs.flatten = T at htot
  refine W.bind (W.loop (fun s => s.1 ++ (s.2.1 ++ s.2.2.2.2.flatten) = T ∧ (s.1.length : Int) ≤ max n 0 ∧ chs s.2.1 s.2.2.2.2 = dropL f.cs s.1.length ∧ s.2.2.1 = f.size_ ∧ s.2.2.2.1 = f.closed_ ∧ ∀ x ∈ s.2.2.2.2, x ≠ []) (fun s => (n - s.1.length).toNat)
    ⟨by simp only [List.nil_append]; rw [← chs_flat]; exact hT, by simp; omega, (dropL_zero _ hne).symm, rfl, rfl, h.ne⟩ ?_)
  rintro ⟨out, now, size, closed, wait⟩ ⟨i1, i2, i3, i4, i5, i6⟩
  simp only at i1 i2 i3 i4 i5 i6
  have hol : out.length ≤ T.length := by rw [← i1]; simp
  -- the end
  have fin : ∀ (now' : List UInt8) (wait' : List (List UInt8)), out ++ (now' ++ wait'.flatten) = T → chs now' wait' = dropL f.cs out.length → (∀ x ∈ wait', x ≠ []) → (n ≤ out.length ∨ (now' = [] ∧ wait' = [])) →
      W (some (out, (⟨wait', now', IntKind.i64.wrap (size - (out.length : Int)), closed⟩ : S_feed_Feed), wait')) (SomeQ f n) := by
    intro now' wait' j1 j2 j3 j4
    have hcs : chs now' wait' = dropL f.cs n.toNat := by
      rcases j4 with j4 | ⟨rfl, rfl⟩
      · rw [j2]; congr 1; omega
      · have e : out = T := by simpa using j1
        have e2 : dropL f.cs out.length = [] := dropL_all _ _ (by rw [hT, e]; omega) hne
        by_cases hh : (out.length : Int) ≤ n
        · rw [j2, e2, dropL_all _ _ (by rw [hT]; rw [e] at hh; omega) hne]
        · rw [j2]; congr 1; omega
    refine W.ret ⟨rfl, ?_, i5, hcs, ⟨j3, ?_, ?_, ?_⟩⟩
    · rw [hT, ← j1]
      rcases j4 with j4 | ⟨rfl, rfl⟩
      · have : n.toNat = out.length := by omega
        rw [this, List.take_left]
      · simp only [List.flatten_nil, List.append_nil]
        by_cases hh : (out.length : Int) ≤ n
        · rw [List.take_of_length_le (by omega)]
        · have : n.toNat = out.length := by omega
          rw [this, List.take_length]
    · show IntKind.i64.wrap (size - (out.length : Int)) = ((chs now' wait').flatten.length : Int)
      have hs := h.sz
      rw [hT] at hs
      rw [chs_flat, i4, hs, w64 (by omega) (by omega)]
      have := congrArg List.length j1
      simp only [List.length_append] at this ⊢
      omega
    · show (chs now' wait').length ≤ 64
      rw [hcs]; exact Nat.le_trans (dropL_len _ _) h.len
    · show ∀ x ∈ chs now' wait', x.length ≤ 65536
      rw [hcs]; exact dropL_big _ _ h.big
  unfold M_feed_Feed_Some_sPCHI_L0
  refine W.iteP (fun hlt => ?_) fun hge => W.ret (fin now wait i1 i3 i6 (.inl (by omega)))
  -- the chunk that is next
  have next : ∀ (now' : List UInt8) (wait' : List (List UInt8)), now' ≠ [] → out ++ (now' ++ wait'.flatten) = T → chs now' wait' = dropL f.cs out.length → (∀ x ∈ wait', x ≠ []) →
      W ((subS now' none (some (mn (IntKind.i64.wrap (n - (out.length : Int))) (now'.length : Int)))).bind fun x19 => need (okN 1 (out.length + x19.length)) <| (subS now' (some (mn (IntKind.i64.wrap (n - (out.length : Int))) (now'.length : Int))) none).bind fun x20 =>
        some (.inl ((out ++ x19), x20, size, closed, wait') : (List UInt8 × List UInt8 × Int × Bool × List (List UInt8)) ⊕ (List UInt8 × List UInt8 × Int × Bool × List (List UInt8)))) (fun r => match r with
          | .inl s' => (s'.1 ++ (s'.2.1 ++ s'.2.2.2.2.flatten) = T ∧ (s'.1.length : Int) ≤ max n 0 ∧ chs s'.2.1 s'.2.2.2.2 = dropL f.cs s'.1.length ∧ s'.2.2.1 = f.size_ ∧ s'.2.2.2.1 = f.closed_ ∧ ∀ x ∈ s'.2.2.2.2, x ≠ []) ∧ (n - s'.1.length).toNat < (n - out.length).toNat
          | .inr r => W (match r with | (x6, x7, x8, x9, x10) => some (x6, (⟨x10, x7, IntKind.i64.wrap (x8 - (x6.length : Int)), x9⟩ : S_feed_Feed), x10)) (SomeQ f n)) := by
    intro now' wait' hn0 j1 j2 j3
    have hl := congrArg List.length j1
    simp only [List.length_append] at hl
    have hnl : 0 < now'.length := List.length_pos_iff.2 hn0
    obtain ⟨k, hk⟩ : ∃ k : Nat, mn (IntKind.i64.wrap (n - (out.length : Int))) (now'.length : Int) = (k : Int) ∧ k ≤ now'.length ∧ 0 < k ∧ (out.length + k : Int) ≤ n ∧ (k = now'.length ∨ (out.length + k : Int) = n) := by
      rw [w64 (by omega) (by omega)]
      unfold mn
      split
      · exact ⟨now'.length, by omega⟩
      · exact ⟨(n - (out.length : Int)).toNat, by omega⟩
    obtain ⟨hk, k1, k2, k3, k4⟩ := hk
    rw [hk, subS_hi k1, subS_lo k1]
    simp only [Option.bind_some]
    have hcs : chs (now'.drop k) wait' = dropL f.cs (out.length + k) := by
      rw [← dropL_add _ hne, ← j2]
      unfold chs
      rw [if_neg hn0]
      by_cases e : k = now'.length
      · subst e
        rw [List.drop_length, if_pos rfl]
        simp only [dropL, if_neg (Nat.lt_irrefl _), Nat.sub_self]
        exact (dropL_zero _ j3).symm
      · rw [if_neg (fun e2 => by have := congrArg List.length e2; simp at this; omega)]
        simp only [dropL, if_pos (show k < now'.length by omega)]
    have e1 : (out ++ now'.take k).length = out.length + k := by simp; omega
    refine W.need (okN_of (by rw [List.length_take]; omega) (by rw [List.length_take]; omega)) (W.ret ⟨⟨?_, ?_, ?_, i4, i5, j3⟩, ?_⟩)
    · simp only [List.append_assoc]
      rw [← j1]
      congr 1
      rw [← List.append_assoc, List.take_append_drop]
    · simp only [e1]; omega
    · simp only [e1]; exact hcs
    · simp only [e1]; omega
  by_cases hnow : now = []
  · subst hnow
    rw [show (([] : List UInt8) == []) = true from rfl, iteB_true]
    unfold M_feed_Feed_more_sPCH
    cases wait with
    | nil =>
      simp only [List.isEmpty_nil, iteB_true, Option.bind_some, Bool.not_false]
      exact W.ret (fin [] [] i1 i3 (by simp) (.inr ⟨rfl, rfl⟩))
    | cons y ys =>
      simp only [List.isEmpty_cons, iteB_false, unc, Option.bind_some, Bool.not_true]
      have hy := i6 y (by simp)
      refine (next y ys hy (by simpa using i1) ?_ fun x hx => i6 x (by simp [hx])).mono fun r h => by cases r <;> exact h
      rw [← i3]; unfold chs; rw [if_neg hy, if_pos rfl]
  · have : (now == ([] : List UInt8)) = false := by cases now; exact absurd rfl hnow; rfl
    rw [this, iteB_false]
    simp only [Option.bind_some, iteB_false]
    exact (next now wait hnow i1 i3 i6).mono fun r h => by cases r <;> exact h
end Go.Av.L
