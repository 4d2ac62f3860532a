/-
  TREE: what the ring of functions that ask each other tells: repeats; the whole ring.
-/
import Derived.Test.YtmjljpnalhknfaaDoorTreeRing
namespace Go.Abs.L
open Go.Abs
set_option linter.unusedVariables false
set_option linter.unusedSimpArgs false

theorem mt_rep {ns : List Nd} {s : List UInt8} {a x : Nat} {n : Nd} {t : Int} {i j : Nat} (hn : ns[a]? = some n) (h4 : n.k = 4) (hx : n.a = (x : Int)) :
    Mt ns s a t i j ↔ (i = j ∧ n.mi ≤ t) ∨ (t ≠ n.ma ∧ ∃ k, (k = i → t < n.mi) ∧ Mt ns s x 0 i k ∧ Mt ns s a (nextT n t) k j) := by
  constructor
  · intro m
    cases m with
    | empty h1 h2 => rw [hn] at h1; cases h1; omega
    | one h1 h2 => rw [hn] at h1; cases h1; omega
    | front h1 h2 => rw [hn] at h1; cases h1; omega
    | back h1 h2 => rw [hn] at h1; cases h1; omega
    | altL h1 h2 => rw [hn] at h1; cases h1; omega
    | altR h1 h2 => rw [hn] at h1; cases h1; omega
    | group h1 h2 => rw [hn] at h1; cases h1; omega
    | cat h1 h2 => rw [hn] at h1; cases h1; omega
    | repEnd h1 h2 h3 => rw [hn] at h1; cases h1; exact .inl ⟨rfl, h3⟩
    | @repStep _ x' n' _ _ k _ h1 h2 h3 h5 h6 m1 m2 =>
      rw [hn] at h1; cases h1
      have : x' = x := by omega
      subst this
      exact .inr ⟨h5, k, h6, m1, m2⟩
  · rintro (⟨rfl, h⟩ | ⟨h, k, h1, m1, m2⟩)
    · exact .repEnd hn h4 h
    · exact .repStep hn h4 hx h h1 m1 m2
theorem rep_spec {c : Ak} (ok : c.Ok) {m x : Nat} {a : Nat} {t : Int} {i j : Nat} {n : Nd} (hn : c.ns[a]? = some n) (h4 : n.k = 4) (hij : i ≤ j) (hjl : j ≤ c.s.length) (ht : 0 ≤ t ∧ t ≤ 255) (hx : n.a = (x : Int))
    (ha : ∀ k, i ≤ k → k ≤ j → c.AskOk m x 0 i k) (hb : ∀ k, i ≤ k → k ≤ j → t ≠ n.ma → (k = i → t < n.mi) → c.AskOk m a (nextT n t) k j) {h : AHeap} (hi : c.I h) :
    W ((Ring (m + 1)).M_tree_asker_repeats c.g h (some (c.A, 0)) (qC a t i j) (nodeC n)) (c.Post h a t i j) := by
  show W (B_tree_asker_repeats (Ring m) c.g h (some (c.A, 0)) (qC a t i j) (nodeC n)) _
  have hML := hi.lt
  have hl := ok.len
  have hmt := @mt_rep c.ns c.s a x n t i j hn h4 hx
  unfold B_tree_asker_repeats
  refine W.need rfl ?_
  simp only [Option.bind_some]
  refine W.need rfl ?_
  obtain ⟨h1, e1⟩ : ∃ h1, h1 = h.push (.cells none 2 (qC a t i j)) := ⟨_, rfl⟩
  obtain ⟨h2, e2⟩ : ∃ h2, h2 = h1.push (.cells none 2 (nodeC n)) := ⟨_, rfl⟩
  have z1 : h1.size = h.size + 1 := by rw [e1]; rfl
  have k2 : Only none h h2 := by rw [e2, e1]; exact (Only.push _ _ _).trans (Only.push _ _ _)
  have gq : h2.get h.size = some (.cells none 2 (qC a t i j)) := by rw [e2, AHeap.get_push_old _ _ (by omega), e1, AHeap.get_push_new]
  have gn : h2.get h1.size = some (.cells none 2 (nodeC n)) := by rw [e2, AHeap.get_push_new]
  rw [← e1, ← e2]
  have l1 : ldI h2 (h.size, 1) .i64 = some t := ldI_of gq (by simp) rfl
  have l2 : ldI h2 (h.size, 2) .i64 = some (i : Int) := ldI_of gq (by simp) rfl
  have l3 : ldI h2 (h.size, 3) .i64 = some (j : Int) := ldI_of gq (by simp) rfl
  have lmi : ldI h2 (h1.size, 3) .i64 = some n.mi := ldI_of gn (by simp) rfl
  have lma : ldI h2 (h1.size, 4) .i64 = some n.ma := ldI_of gn (by simp) rfl
  simp only [l1, l2, l3, lmi, lma, Option.bind_some]
  rw [iteB_and]
  simp only [Option.bind_some]
  refine W.ite (fun hend => ?_) (fun hno => ?_)
  · simp only [Bool.and_eq_true, decide_eq_true_eq, beq_iff_eq] at hend
    exact W.ret ⟨by simp only [true_iff]; exact hmt.2 (.inl ⟨by omega, by omega⟩), hi.keep ok k2, k2.weaken _⟩
  have hno : ¬ (i = j ∧ n.mi ≤ t) := by
    intro hx
    rw [Bool.eq_false_iff] at hno
    exact hno (by simp only [Bool.and_eq_true, decide_eq_true_eq, beq_iff_eq]; omega)
  rw [iteB_beq]
  split
  · rename_i hma
    exact W.ret ⟨by simp only [Bool.false_eq_true, false_iff]; exact fun hm => by rcases hmt.1 hm with h | ⟨h, _⟩; exact hno h; exact h hma, hi.keep ok k2, k2.weaken _⟩
  rename_i hma
  have ext : IntKind.i64.wrap (t + 1) = t + 1 := w64 (by omega) (by omega)
  have enx : (iteB (decide (n.ma < 0)) (some (mn (IntKind.i64.wrap (t + 1)) n.mi)) (some (IntKind.i64.wrap (t + 1))) : Option Int) = some (nextT n t) := by
    rw [ext]
    unfold nextT mn
    by_cases h : n.ma < 0
    · rw [decide_eq_true h, if_pos h, iteB_true]
      congr 1
      split <;> split <;> omega
    · rw [decide_eq_false h, if_neg h, iteB_false]
  rw [enx]
  simp only [Option.bind_some]
  refine W.bind (W.mono (Q := fun o => (∃ h6, o = .inl h6 ∧ c.I h6 ∧ Only (some c.M) h h6 ∧ ¬ ∃ k, (k = i → t < n.mi) ∧ Mt c.ns c.s x 0 i k ∧ Mt c.ns c.s a (nextT n t) k j) ∨ (∃ h6, o = .inr (true, h6) ∧ c.I h6 ∧ Only (some c.M) h h6 ∧ ∃ k, (k = i → t < n.mi) ∧ Mt c.ns c.s x 0 i k ∧ Mt c.ns c.s a (nextT n t) k j)) ?_ ?_)
  · refine W.loop (fun st => ∃ k : Nat, st.1 = k ∧ i ≤ k ∧ k ≤ j + 1 ∧ c.I st.2 ∧ Only (some c.M) h st.2 ∧ st.2.get h.size = some (.cells none 2 (qC a t i j)) ∧ st.2.get h1.size = some (.cells none 2 (nodeC n)) ∧ ∀ k', i ≤ k' → k' < k → ¬ ((k' = i → t < n.mi) ∧ Mt c.ns c.s x 0 i k' ∧ Mt c.ns c.s a (nextT n t) k' j)) (fun st => j + 1 - st.1.toNat)
      ⟨i, rfl, Nat.le_refl _, by omega, hi.keep ok k2, k2.weaken _, gq, gn, fun k' h1 h2 => by omega⟩ ?_
    rintro ⟨_, h3⟩ ⟨k, rfl, hik, hkj, i3, o3, q3, n3, no⟩
    dsimp only at i3 o3 q3 n3
    unfold M_tree_asker_repeats_L0
    dsimp only
    have l0 : ldI h3 (h.size, 0) .i64 = some (a : Int) := ldI_of q3 (by simp) rfl
    have l1 : ldI h3 (h.size, 1) .i64 = some t := ldI_of q3 (by simp) rfl
    have l2 : ldI h3 (h.size, 2) .i64 = some (i : Int) := ldI_of q3 (by simp) rfl
    have l3 : ldI h3 (h.size, 3) .i64 = some (j : Int) := ldI_of q3 (by simp) rfl
    have lmi : ldI h3 (h1.size, 3) .i64 = some n.mi := ldI_of n3 (by simp) rfl
    have lna : ldI h3 (h1.size, 1) .i64 = some (x : Int) := by rw [← hx]; exact ldI_of n3 (by simp) rfl
    simp only [l0, l1, l2, l3, lmi, lna, Option.bind_some]
    refine W.iteP (fun hle => ?_) (fun hgt => ?_)
    · have hle : k ≤ j := by omega
      rw [iteB_and]
      simp only [Option.bind_some]
      rw [ek64 (by omega)]
      refine W.bind (W.mono (Q := fun o => (∃ h7, o = .inl h7 ∧ c.I h7 ∧ Only (some c.M) h3 h7 ∧ ¬ ((k = i → t < n.mi) ∧ Mt c.ns c.s x 0 i k ∧ Mt c.ns c.s a (nextT n t) k j)) ∨ (∃ h7, o = .inr (true, h7) ∧ c.I h7 ∧ Only (some c.M) h3 h7 ∧ ((k = i → t < n.mi) ∧ Mt c.ns c.s x 0 i k ∧ Mt c.ns c.s a (nextT n t) k j))) ?_ ?_)
      · refine W.ite (fun hskip => ?_) (fun hgo => ?_)
        · simp only [Bool.and_eq_true, decide_eq_true_eq, beq_iff_eq] at hskip
          exact W.ret (.inl ⟨h3, rfl, i3, Only.refl _ _, fun hm => by have := hm.1 (by omega); omega⟩)
        · have hgo : k = i → t < n.mi := by
            intro hk
            rw [Bool.eq_false_iff] at hgo
            refine Int.not_le.1 fun hc => hgo ?_
            simp only [Bool.and_eq_true, decide_eq_true_eq, beq_iff_eq]; omega
          refine W.bind (W.mono (ha k hik hle h3 i3) ?_)
          rintro ⟨b1, h4⟩ ⟨p4, i4, o4⟩
          dsimp only at p4 i4 o4 ⊢
          cases b1
          · simp only [iteB_false, Option.bind_some]
            exact W.ret (.inl ⟨h4, rfl, i4, o4, fun hm => by have := p4.2 hm.2.1; cases this⟩)
          · simp only [iteB_true]
            have q4 : h4.get h.size = some (.cells none 2 (qC a t i j)) := o4.keep q3 (by simp; omega)
            have l0 : ldI h4 (h.size, 0) .i64 = some (a : Int) := ldI_of q4 (by simp) rfl
            have l3 : ldI h4 (h.size, 3) .i64 = some (j : Int) := ldI_of q4 (by simp) rfl
            simp only [l0, l3, Option.bind_some]
            refine W.bind (W.bind (W.mono (hb k hik hle hma hgo h4 i4) ?_))
            rintro ⟨b2, h5⟩ ⟨p5, i5, o5⟩
            dsimp only at p5 i5 o5 ⊢
            refine W.ret ?_
            dsimp only
            cases b2
            · simp only [iteB_false]
              exact W.ret (.inl ⟨h5, rfl, i5, o4.trans o5, fun hm => by have := p5.2 hm.2.2; cases this⟩)
            · simp only [iteB_true]
              exact W.ret (.inr ⟨h5, rfl, i5, o4.trans o5, hgo, p4.1 rfl, p5.1 rfl⟩)
      · rintro o (⟨h7, rfl, i7, o7, nk⟩ | ⟨h7, rfl, i7, o7, yk⟩)
        · refine W.ret ⟨⟨k + 1, rfl, by omega, by omega, i7, o3.trans o7, o7.keep q3 (by simp; omega), o7.keep n3 (by simp; omega), fun k' h1 h2 => ?_⟩, by dsimp only; omega⟩
          by_cases hk : k' < k
          · exact no k' h1 hk
          · have : k' = k := by omega
            subst this
            exact nk
        · exact W.ret (.inr ⟨h7, rfl, i7, o3.trans o7, k, yk⟩)
    · refine W.ret (.inl ⟨h3, rfl, i3, o3, ?_⟩)
      rintro ⟨k', m0, m1, m2⟩
      have := m1.le
      have := m2.le
      exact no k' (by omega) (by omega) ⟨m0, m1, m2⟩
  · rintro o (⟨h6, rfl, i6, o6, no⟩ | ⟨h6, rfl, i6, o6, yes⟩)
    · exact W.ret ⟨by simp only [Bool.false_eq_true, false_iff]; exact fun hm => by rcases hmt.1 hm with h | ⟨_, h⟩; exact hno h; exact no h, i6, o6⟩
    · exact W.ret ⟨by simp only [true_iff]; exact hmt.2 (.inr ⟨hma, yes⟩), i6, o6⟩
theorem mt_simple {ns : List Nd} {s : List UInt8} {a : Nat} {n : Nd} {t : Int} {i j : Nat} (hn : ns[a]? = some n) :
    Mt ns s a t i j ↔ (n.k = 0 ∧ i = j) ∨ (n.k = 1 ∧ j = i + 1 ∧ ∃ b, s[i]? = some b ∧ hasB n b.toNat = true) ∨ (n.k = 6 ∧ i = 0 ∧ j = 0) ∨ (n.k = 7 ∧ i = s.length ∧ j = s.length) ∨
      (n.k = 3 ∧ ((∃ x : Nat, n.a = x ∧ Mt ns s x 0 i j) ∨ ∃ x : Nat, n.b = x ∧ Mt ns s x 0 i j)) ∨ (n.k = 5 ∧ ∃ x : Nat, n.a = x ∧ Mt ns s x 0 i j) ∨ (n.k = 2 ∧ ∃ x y k : Nat, n.a = x ∧ n.b = y ∧ Mt ns s x 0 i k ∧ Mt ns s y 0 k j) ∨ (n.k = 4 ∧ Mt ns s a t i j) := by
  constructor
  · intro m
    have m' := m
    cases m with
    | empty h1 h2 => rw [hn] at h1; cases h1; exact .inl ⟨h2, rfl⟩
    | one h1 h2 h3 h4 => rw [hn] at h1; cases h1; exact .inr (.inl ⟨h2, rfl, _, h3, h4⟩)
    | front h1 h2 => rw [hn] at h1; cases h1; exact .inr (.inr (.inl ⟨h2, rfl, rfl⟩))
    | back h1 h2 => rw [hn] at h1; cases h1; exact .inr (.inr (.inr (.inl ⟨h2, rfl, rfl⟩)))
    | altL h1 h2 h3 h4 => rw [hn] at h1; cases h1; exact .inr (.inr (.inr (.inr (.inl ⟨h2, .inl ⟨_, h3, h4⟩⟩))))
    | altR h1 h2 h3 h4 => rw [hn] at h1; cases h1; exact .inr (.inr (.inr (.inr (.inl ⟨h2, .inr ⟨_, h3, h4⟩⟩))))
    | group h1 h2 h3 h4 => rw [hn] at h1; cases h1; exact .inr (.inr (.inr (.inr (.inr (.inl ⟨h2, _, h3, h4⟩)))))
    | cat h1 h2 h3 h4 h5 h6 => rw [hn] at h1; cases h1; exact .inr (.inr (.inr (.inr (.inr (.inr (.inl ⟨h2, _, _, _, h3, h4, h5, h6⟩))))))
    | repEnd h1 h2 h3 => rw [hn] at h1; cases h1; exact .inr (.inr (.inr (.inr (.inr (.inr (.inr ⟨h2, m'⟩))))))
    | repStep h1 h2 h3 h5 h6 m1 m2 => rw [hn] at h1; cases h1; exact .inr (.inr (.inr (.inr (.inr (.inr (.inr ⟨h2, m'⟩))))))
  · rintro (⟨h, rfl⟩ | ⟨h, rfl, b, h1, h2⟩ | ⟨h, rfl, rfl⟩ | ⟨h, rfl, rfl⟩ | ⟨h, ⟨x, h1, h2⟩ | ⟨x, h1, h2⟩⟩ | ⟨h, x, h1, h2⟩ | ⟨h, x, y, k, h1, h2, h3, h4⟩ | ⟨_, h⟩)
    · exact .empty hn h
    · exact .one hn h h1 h2
    · exact .front hn h
    · exact .back hn h
    · exact .altL hn h h1 h2
    · exact .altR hn h h1 h2
    · exact .group hn h h1 h2
    · exact .cat hn h h1 h2 h3 h4
    · exact h
def Ak.mu (c : Ak) (a : Nat) (t : Int) (i j : Nat) : Nat := a * ((c.s.length + 1) * 257) + (j - i) * 257 + (((c.ns.getD a zNd).mi - t).toNat)
theorem mu_sub {c : Ak} {a x : Nat} {t : Int} {i j i' j' : Nat} {n : Nd} (hxa : x < a) (hj : j' ≤ c.s.length) (hn : c.ns[x]? = some n) (hmi : n.mi ≤ 255) : c.mu x 0 i' j' < c.mu a t i j := by
  unfold Ak.mu
  have hd : c.ns.getD x zNd = n := by rw [List.getD_eq_getElem?_getD, hn]; rfl
  rw [hd]
  have h1 : (x + 1) * ((c.s.length + 1) * 257) ≤ a * ((c.s.length + 1) * 257) := Nat.mul_le_mul_right _ hxa
  rw [Nat.succ_mul] at h1
  have h2 : (j' - i') * 257 ≤ c.s.length * 257 := Nat.mul_le_mul_right _ (by omega)
  omega
theorem mu_rep {c : Ak} {a : Nat} {t t' : Int} {i j k : Nat} {n : Nd} (hn : c.ns[a]? = some n) (hmi : n.mi ≤ 255) (ht' : 0 ≤ t') (hik : i ≤ k) (hkj : k ≤ j) (hk : k = i → t < t' ∧ t < n.mi) : c.mu a t' k j < c.mu a t i j := by
  unfold Ak.mu
  have hd : c.ns.getD a zNd = n := by rw [List.getD_eq_getElem?_getD, hn]; rfl
  rw [hd]
  by_cases h : k = i
  · subst h
    have := hk rfl
    omega
  · omega
end Go.Abs.L
