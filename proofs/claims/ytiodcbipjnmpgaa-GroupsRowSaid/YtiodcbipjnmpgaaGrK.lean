/-
  Groups: 'cut', 'make', Spans.
-/
import Derived.Test.YtiodcbipjnmpgaaGrE
import Derived.Test.YtiodcbipjnmpgaaGrR
namespace Go.Av.L
open Go.Av Go.Lib
set_option linter.unusedVariables false
set_option linter.unusedSimpArgs false
section
variable {ns : List S_tree_Node} {root : Int} {s : List UInt8}
theorem Cut.uniq {f a : Nat} {t : Int} {i j k k' : Nat} (h : Cut ns s f a t i j k) (h' : Cut ns s f a t i j k') : k = k' := by
 rcases Nat.lt_trichotomy k k' with e | e | e
 ·exact (h.top k' e h'.hi (h'.is (by have := h.lo; omega))).elim
 ·exact e
 ·exact (h'.top k e h.hi (h.is (by have := h'.lo; omega))).elim
open Classical in
theorem cut_ok (hns : ∀ (i : Nat) n, ns[i]? = some n → nodeR n i) (hl : ns.length ≤ 1024) (hs : s.length ≤ 1000000) {f a : Nat} {t : Int} {i j : Nat} (hf : f < ns.length) (ha : a < ns.length) (ht : Tn ns a t) (hij : i ≤ j) (hj : j ≤ s.length) {told : List (S_groups_spot × List Bool)} (hM : Mem ns s told) (nd tn : Int) :
  W (M_groups_ender_cut ⟨⟨ns, root⟩, s, told⟩ (f : Int) (a : Int) t ⟨nd, tn, (i : Int), (j : Int)⟩ (i : Int)) fun r => ∃ k : Nat, r.1 = (k : Int) ∧ Cut ns s f a t i j k ∧ Mem ns s r.2 := by
 unfold M_groups_ender_cut
 refine W.bind ((endsM_ok hns hl hs hf (.inl rfl) (by omega : i ≤ s.length) hM).mono ?_)
 rintro ⟨l1, m1⟩ ⟨rfl, h1⟩
 simp only at h1
 simp only []
 refine W.bind (W.mono (W.loop (fun u => ∃ p : Nat, u.2 = (p : Int) ∧ i ≤ p ∧ p ≤ j ∧ Mem ns s u.1 ∧ ∀ q, p < q → q ≤ j → ¬ (Mt ns s f 0 i q ∧ Mt ns s a t q j)) (fun u => u.2.toNat) ⟨j, rfl, hij, Nat.le_refl _, h1, fun q h1 h2 => by omega⟩ ?_ (Q := fun o => match o with
  | .inl m => Mem ns s m ∧ ∀ q, i < q → q ≤ j → ¬ (Mt ns s f 0 i q ∧ Mt ns s a t q j)
  | .inr (m, k') => ∃ k : Nat, k' = (k : Int) ∧ Cut ns s f a t i j k ∧ Mem ns s m)) fun o ho => ?_)
 ·rintro ⟨m, p'⟩ ⟨p, hp, hp1, hp2, hm, hno⟩
  simp only at hp hm
  subst hp
  unfold M_groups_ender_cut_L0
  simp only []
  refine W.iteP (fun hgt => ?_) fun hle => W.ret ⟨hm, fun q h1 h2 => hno q (by omega) h2⟩
  rw [rowP_ix (show p < s.length + 1 by omega), Option.bind_some]
  refine W.bind (W.mono (Q := fun r => Mem ns s r.1 ∧ (r.2 = true ↔ Mt ns s f 0 i p ∧ Mt ns s a t p j)) ?_ fun r hr => ?_)
  ·refine W.iteP (fun hx => ?_) fun hx => W.ret ⟨hm, by simp [hx]⟩
   refine W.bind ((endsM_ok hns hl hs ha ht (by omega : p ≤ s.length) hm).mono ?_)
   rintro ⟨l2, m2⟩ ⟨rfl, h2⟩
   simp only at h2
   simp only []
   rw [rowP_ix (show j < s.length + 1 by omega), Option.bind_some]
   exact W.ret ⟨h2, by simp [hx]⟩
  ·obtain ⟨m2, b⟩ := r
   obtain ⟨r1, r2⟩ := hr
   simp only at r1 r2
   simp only []
   refine W.ite (fun hb => W.ret ⟨p, rfl, ⟨hp1, hp2, fun _ => r2.1 hb, hno⟩, r1⟩) fun hb => ?_
   rw [w64 (by omega) (by omega)]
   refine W.ret ⟨⟨p - 1, by simp only []; omega, by omega, by omega, r1, fun q q1 q2 => ?_⟩, by simp only []; omega⟩
   by_cases e : q = p
   ·subst e
    intro h
    rw [r2.2 h] at hb
    cases hb
   ·exact hno q (by omega) q2
 ·cases o with
  | inl m => exact W.ret ⟨i, rfl, ⟨Nat.le_refl _, hij, fun h => absurd h (Nat.lt_irrefl _), ho.2⟩, ho.1⟩
  | inr r =>
   obtain ⟨m, k'⟩ := r
   exact W.ret ho
def puts (out : List S_groups_Span) (l : List (Int × Nat × Nat)) : List S_groups_Span := l.foldl (fun o g => o.set g.1.toNat ⟨(g.2.1 : Int), (g.2.2 : Int), true⟩) out
theorem puts_len (l : List (Int × Nat × Nat)) : ∀ out, (puts out l).length = out.length := by
 induction l with
 | nil => exact fun _ => rfl
 | cons g l ih =>
  intro out
  show (puts (out.set _ _) l).length = _
  rw [ih, List.length_set]
theorem puts_app (out : List S_groups_Span) (l1 l2 : List (Int × Nat × Nat)) : puts out (l1 ++ l2) = puts (puts out l1) l2 := List.foldl_append
theorem hd_ix {α : Type} {st : List α} {x : α} (h : st.length ≤ 2000000) : ixV (st ++ [x]) (IntKind.i64.wrap (((st ++ [x]).length : Int) - 1)) = some x := by
 have e : IntKind.i64.wrap (((st ++ [x]).length : Int) - 1) = (st.length : Int) := by
  rw [List.length_append, List.length_singleton, w64 (by omega) (by omega)]; omega
 rw [e]
 exact ixV_nat (by simp)
theorem hd_sub {α : Type} {st : List α} {x : α} (h : st.length ≤ 2000000) : subV (st ++ [x]) none (some (IntKind.i64.wrap (((st ++ [x]).length : Int) - 1))) = some st := by
 have e : IntKind.i64.wrap (((st ++ [x]).length : Int) - 1) = (st.length : Int) := by
  rw [List.length_append, List.length_singleton, w64 (by omega) (by omega)]; omega
 rw [e, subV_hi (by simp), List.take_left]
theorem hd_len {α : Type} {st : List α} {x : α} : decide (((st ++ [x]).length : Int) > 0) = true := by
 rw [List.length_append, List.length_singleton]
 exact decide_eq_true (by omega)
noncomputable abbrev mkL (ns : List S_tree_Node) (root : Int) (s : List UInt8) (told : List (S_groups_spot × List Bool)) := M_groups_ender_make_sPOFPO_L0 ⟨⟨ns, root⟩, s, told⟩
open Classical in
theorem run_ok (hns : ∀ (i : Nat) n, ns[i]? = some n → nodeR n i) (hl : ns.length ≤ 1024) (hs : s.length ≤ 1000000) (told0 : List (S_groups_spot × List Bool)) {a : Nat} {t : Int} {i j : Nat} {l : List (Int × Nat × Nat)} (h : Lg ns s a t i j l) :
  ∀ told st out, Mem ns s told → a < ns.length → Tn ns a t → i ≤ j → j ≤ s.length → st.length + a ≤ 1000000 → (∀ g ∈ l, 0 ≤ g.1 ∧ g.1 < (out.length : Int)) →
   ∃ told', Av.loop (mkL ns root s told0) (told, st ++ [⟨(a : Int), t, (i : Int), (j : Int)⟩], out) = Av.loop (mkL ns root s told0) (told', st, puts out l) ∧ Mem ns s told' := by
 induction h with
 | @leaf a n t i j hn h2 h3 h4 h5 =>
  intro told st out hM ha ht hij hj hst hg
  refine ⟨told, ?_, hM⟩
  refine loop_step ?_
  unfold mkL M_groups_ender_make_sPOFPO_L0
  simp only []
  rw [hd_len, iteB_true, hd_ix (by omega), Option.bind_some, hd_sub (by omega), Option.bind_some]
  simp only []
  rw [ixV_nat hn, Option.bind_some, iteB_beq, if_neg h5, iteB_beq, if_neg h3, iteB_beq, if_neg h2, iteB_beq, if_neg h4]
  rfl
 | @group a x n t i j l hn hk hx hlg ih =>
  intro told st out hM ha ht hij hj hst hg
  have hR := (hns a n hn).2.2 hk
  have hg0 := hg (n.Group, i, j) (by simp)
  simp only at hg0
  obtain ⟨told', e, hM'⟩ := ih told st (out.set n.Group.toNat ⟨(i : Int), (j : Int), true⟩) hM (by omega) (.inl rfl) hij hj (by omega) (fun g hgl => by rw [List.length_set]; exact hg g (by simp [hgl]))
  refine ⟨told', ?_, hM'⟩
  refine Eq.trans (loop_step ?_) e
  unfold mkL M_groups_ender_make_sPOFPO_L0
  simp only []
  rw [hd_len, iteB_true, hd_ix (by omega), Option.bind_some, hd_sub (by omega), Option.bind_some]
  simp only []
  rw [ixV_nat hn, Option.bind_some, iteB_beq, if_pos hk]
  unfold M_groups_Spans_1_sIIIPO
  obtain ⟨G, hG⟩ := Int.eq_ofNat_of_zero_le hg0.1
  rw [hG] at hg0 ⊢
  rw [ixV_get (show G < out.length by omega), Option.bind_some, Option.bind_some, okN_of (by simp; omega) (by simp; omega), need_true, hx]
 | @altL a x n t i j l hn hk hx hm hlg ih =>
  intro told st out hM ha ht hij hj hst hg
  obtain ⟨a1, a2, b1, b2⟩ := (hns a n hn).1 (.inr hk)
  obtain ⟨⟨l1, m1⟩, e1, h1, h2⟩ := endsM_ok (root := root) hns hl hs (show x < ns.length by omega) (.inl rfl) (show i ≤ s.length by omega) hM
  simp only at h1 h2
  subst h1
  obtain ⟨told', e, hM'⟩ := ih m1 st out h2 (by omega) (.inl rfl) hij hj (by omega) hg
  refine ⟨told', ?_, hM'⟩
  refine Eq.trans (loop_step ?_) e
  unfold mkL M_groups_ender_make_sPOFPO_L0
  simp only []
  rw [hd_len, iteB_true, hd_ix (by omega), Option.bind_some, hd_sub (by omega), Option.bind_some]
  simp only []
  rw [ixV_nat hn, Option.bind_some, iteB_beq, if_neg (by omega), iteB_beq, if_pos hk, hx, e1, Option.bind_some]
  simp only []
  rw [rowP_ix (show j < s.length + 1 by omega), Option.bind_some, decide_eq_true hm, Bool.not_true, iteB_false, Option.bind_some]
  simp only []
  rw [okN_of (by simp; omega) (by simp; omega), need_true]
 | @altR a x y n t i j l hn hk hx hy hm hlg ih =>
  intro told st out hM ha ht hij hj hst hg
  obtain ⟨a1, a2, b1, b2⟩ := (hns a n hn).1 (.inr hk)
  obtain ⟨⟨l1, m1⟩, e1, h1, h2⟩ := endsM_ok (root := root) hns hl hs (show x < ns.length by omega) (.inl rfl) (show i ≤ s.length by omega) hM
  simp only at h1 h2
  subst h1
  obtain ⟨told', e, hM'⟩ := ih m1 st out h2 (by omega) (.inl rfl) hij hj (by omega) hg
  refine ⟨told', ?_, hM'⟩
  refine Eq.trans (loop_step ?_) e
  unfold mkL M_groups_ender_make_sPOFPO_L0
  simp only []
  rw [hd_len, iteB_true, hd_ix (by omega), Option.bind_some, hd_sub (by omega), Option.bind_some]
  simp only []
  rw [ixV_nat hn, Option.bind_some, iteB_beq, if_neg (by omega), iteB_beq, if_pos hk, hx, hy, e1, Option.bind_some]
  simp only []
  rw [rowP_ix (show j < s.length + 1 by omega), Option.bind_some, decide_eq_false hm, Bool.not_false, iteB_true, Option.bind_some]
  simp only []
  rw [okN_of (by simp; omega) (by simp; omega), need_true]
 | @cat a x y n t i j k l1 l2 hn hk hx hy hc hlg1 hlg2 ih1 ih2 =>
  intro told st out hM ha ht hij hj hst hg
  obtain ⟨a1, a2, b1, b2⟩ := (hns a n hn).1 (.inl hk)
  obtain ⟨⟨k', m1⟩, e1, k2, h1, h2, h3⟩ := cut_ok (root := root) hns hl hs (show x < ns.length by omega) (show y < ns.length by omega) (.inl rfl) hij hj hM (a : Int) t
  simp only at h1 h3
  obtain rfl := hc.uniq h2
  subst h1
  have c1 := hc.lo
  have c2 := hc.hi
  obtain ⟨m2, e2, hM2⟩ := ih1 m1 (st ++ [⟨(y : Int), 0, (k : Int), (j : Int)⟩]) out h3 (by omega) (.inl rfl) c1 (by omega) (by simp; omega) (fun g hgl => hg g (by simp [hgl]))
  obtain ⟨m3, e3, hM3⟩ := ih2 m2 st (puts out l1) hM2 (by omega) (.inl rfl) c2 hj (by omega) (fun g hgl => by rw [puts_len]; exact hg g (by simp [hgl]))
  refine ⟨m3, ?_, hM3⟩
  rw [puts_app]
  refine Eq.trans (loop_step ?_) (e2.trans e3)
  unfold mkL M_groups_ender_make_sPOFPO_L0
  simp only []
  rw [hd_len, iteB_true, hd_ix (by omega), Option.bind_some, hd_sub (by omega), Option.bind_some]
  simp only []
  rw [ixV_nat hn, Option.bind_some, iteB_beq, if_neg (by omega), iteB_beq, if_neg (by omega), iteB_beq, if_pos hk, hx, hy, e1, Option.bind_some]
  simp only []
  rw [okN_of (by simp; omega) (by simp; omega), need_true, List.append_assoc]
  rfl
 | @repEnd a n t i hn hk hm =>
  intro told st out hM ha ht hij hj hst hg
  refine ⟨told, ?_, hM⟩
  refine loop_step ?_
  unfold mkL M_groups_ender_make_sPOFPO_L0
  simp only []
  rw [hd_len, iteB_true, hd_ix (by omega), Option.bind_some, hd_sub (by omega), Option.bind_some]
  simp only []
  rw [ixV_nat hn, Option.bind_some, iteB_beq, if_neg (by omega), iteB_beq, if_neg (by omega), iteB_beq, if_neg (by omega), iteB_beq, if_pos hk, decide_eq_true (show t ≥ n.Min from hm), Bool.true_and, beq_self_eq_true, iteB_true]
  rfl
 | @repStep a x n t i j k l1 l2 hn hk hx hmx hmi hc hlg1 hlg2 ih1 ih2 =>
  intro told st out hM ha ht hij hj hst hg
  obtain ⟨a1, a2, _⟩ := (hns a n hn).2.1 hk
  have hT := ht.le
  have tn := (ht.next hn hk (hns a n hn) hmx).1
  obtain ⟨⟨k', m1⟩, e1, k2, h1, h2, h3⟩ := cut_ok (root := root) hns hl hs (show x < ns.length by omega) ha tn hij hj hM (a : Int) t
  simp only at h1 h3
  obtain rfl := hc.uniq h2
  subst h1
  have c1 := hc.lo
  have c2 := hc.hi
  obtain ⟨m2, e2, hM2⟩ := ih1 m1 (st ++ [⟨(a : Int), nextT n t, (k : Int), (j : Int)⟩]) out h3 (by omega) (.inl rfl) c1 (by omega) (by simp; omega) (fun g hgl => hg g (by simp [hgl]))
  obtain ⟨m3, e3, hM3⟩ := ih2 m2 st (puts out l1) hM2 ha tn c2 hj (by omega) (fun g hgl => by rw [puts_len]; exact hg g (by simp [hgl]))
  refine ⟨m3, ?_, hM3⟩
  rw [puts_app]
  refine Eq.trans (loop_step ?_) (e2.trans e3)
  have hb : (decide (t ≥ n.Min) && ((i : Int) == (j : Int))) = false := by
   rw [Bool.and_eq_false_iff]
   by_cases e : i = j
   ·have := hmi e
    exact .inl (decide_eq_false (by omega))
   ·exact .inr (beq_eq_false_iff_ne.2 (by omega))
  unfold mkL M_groups_ender_make_sPOFPO_L0
  simp only []
  rw [hd_len, iteB_true, hd_ix (by omega), Option.bind_some, hd_sub (by omega), Option.bind_some]
  simp only []
  rw [ixV_nat hn, Option.bind_some, iteB_beq, if_neg (by omega), iteB_beq, if_neg (by omega), iteB_beq, if_neg (by omega), iteB_beq, if_pos hk, hb, iteB_false, after_eq hT.1 hT.2, Option.bind_some, hx, e1, Option.bind_some]
  simp only []
  rw [okN_of (by simp; omega) (by simp; omega), need_true, List.append_assoc]
  rfl
open Classical in
theorem spans_ok {a : Nat} (hr : M_tree_Tree_Right ⟨ns, (a : Int)⟩ = some true) (hs : s.length ≤ 1000000) {G : Nat} (hG : M_tree_Tree_Groups ⟨ns, (a : Int)⟩ = some (G : Int)) (hG2 : G ≤ 1000000) {i j : Nat} (hij : i ≤ j) (hj : j ≤ s.length) (hm : Mt ns s a 0 i j) {l : List (Int × Nat × Nat)} (h : Lg ns s a 0 i j l) (hg : ∀ g ∈ l, 0 ≤ g.1 ∧ g.1 ≤ (G : Int)) :
  M_groups_Spans ⟨ns, (a : Int)⟩ s (i : Int) (j : Int) = some (puts ((List.replicate (G + 1) ⟨0, 0, false⟩).set 0 ⟨(i : Int), (j : Int), true⟩) l, true) := by
 have T : TreeR ⟨ns, (a : Int)⟩ := by
  obtain ⟨b, e, q⟩ := right_ok ⟨ns, (a : Int)⟩
  rw [hr] at e
  cases e
  exact q rfl
 have hl : ns.length ≤ 1024 := T.len
 have ha : a < ns.length := by have h1 := T.root.2; exact Int.ofNat_lt.1 h1
 unfold M_groups_Spans
 rw [hr, Option.bind_some, Bool.not_true, Bool.false_or, decide_eq_false (by omega), Bool.false_or, decide_eq_false (by omega), Bool.false_or, decide_eq_false (by omega), iteB_false]
 obtain ⟨⟨l1, m1⟩, e1, h1, h2⟩ := endsM_ok (root := (a : Int)) T.nodes hl hs ha (.inl rfl) (show i ≤ s.length by omega) (told := []) (fun a t i l h => by cases h)
 simp only at h1 h2
 subst h1
 simp only []
 rw [e1, Option.bind_some]
 simp only []
 rw [rowP_ix (show j < s.length + 1 by omega), Option.bind_some, decide_eq_true hm, Bool.not_true, iteB_false, hG, Option.bind_some, ek64 (by omega), show mkN 24 ((G + 1 : Nat) : Int) = true from decide_eq_true ⟨by omega, by omega, by omega⟩, need_true, Int.toNat_natCast]
 rw [show ixV (List.replicate (G + 1) (⟨0, 0, false⟩ : S_groups_Span)) 0 = some ⟨0, 0, false⟩ from ixV_nat (i := 0) (by simp), Option.bind_some]
 unfold M_groups_ender_make_sPOFPO
 obtain ⟨m2, e2, _⟩ := run_ok (root := (a : Int)) T.nodes hl hs m1 h m1 [] ((List.replicate (G + 1) ⟨0, 0, false⟩).set 0 ⟨(i : Int), (j : Int), true⟩) h2 ha (.inl rfl) hij hj (by simp; omega) (fun g hgl => by have := hg g hgl; simp; omega)
 simp only []
 have e3 : Av.loop (M_groups_ender_make_sPOFPO_L0 ⟨⟨ns, (a : Int)⟩, s, m1⟩) (m1, [⟨(a : Int), 0, (i : Int), (j : Int)⟩], (List.replicate (G + 1) ⟨0, 0, false⟩).set (0 : Int).toNat ⟨(i : Int), (j : Int), true⟩) = some (m2, [], puts ((List.replicate (G + 1) ⟨0, 0, false⟩).set 0 ⟨(i : Int), (j : Int), true⟩) l) := e2.trans (loop_end (by unfold mkL M_groups_ender_make_sPOFPO_L0; rfl))
 rw [e3]
 rfl
end
end Go.Av.L
