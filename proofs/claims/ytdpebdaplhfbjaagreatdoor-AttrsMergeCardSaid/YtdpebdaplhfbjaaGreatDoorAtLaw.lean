/-
  AttrsMerge: the law.
-/
import Derived.Test.YtdpebdaplhfbjaaGreatDoorAtMerge
namespace Go.Av.L
open Go.Av Go.Lib
set_option linter.unusedVariables false
set_option linter.unusedSimpArgs false
theorem long_ok (l : List Pr) : ∃ b, M_boulterlaw07_long l = some b ∧ (b = false → l.length ≤ 12 ∧ ∀ p ∈ l, p.Key.length ≤ 300 ∧ p.Value.length ≤ 300) := by
 by_cases hl : l.length ≤ 12
 ·have hw : W (loop (M_boulterlaw07_long_L0 l) (0 : Int)) fun o => o = .inr true ∨ (o = .inl () ∧ ∀ p ∈ l, p.Key.length ≤ 300 ∧ p.Value.length ≤ 300) := by
   refine W.list (l := l) (fun (_ : Unit) (i : Nat) => (i : Int)) (fun _ i => ∀ p ∈ l.take i, p.Key.length ≤ 300 ∧ p.Value.length ≤ 300) ?_ ?_ () (by simp)
   ·intro _ hx
    unfold M_boulterlaw07_long_L0
    refine W.iteP (fun h => by omega) fun _ => W.ret ?_
    rw [List.take_length] at hx
    exact .inr ⟨rfl, hx⟩
   ·intro _ i hi hx
    unfold M_boulterlaw07_long_L0
    refine W.iteP (fun _ => ?_) fun h => by omega
    try simp only []
    rw [ixV_get hi, Option.bind_some]
    refine W.ite (fun h => W.ret (.inl rfl)) fun h => W.ret ⟨(), by rw [ek64 (by omega)], ?_⟩
    simp only [Bool.or_eq_false_iff, decide_eq_false_iff_not] at h
    rw [take_snoc (List.getElem?_eq_getElem hi)]
    intro p hp
    rcases List.mem_append.1 hp with hp | hp
    ·exact hx p hp
    ·rw [List.mem_singleton] at hp
     subst hp
     omega
  obtain ⟨o, e, ho⟩ := hw
  unfold M_boulterlaw07_long
  rw [decide_eq_false (by omega), iteB_false, e, Option.bind_some]
  rcases ho with rfl | ⟨rfl, h⟩
  ·exact ⟨true, rfl, fun h => by cases h⟩
  ·exact ⟨false, rfl, fun _ => ⟨hl, h⟩⟩
 ·unfold M_boulterlaw07_long
  rw [decide_eq_true (by omega), iteB_true]
  exact ⟨true, rfl, fun h => by cases h⟩
theorem same_self (l : List Pr) (hl : l.length ≤ 1000) : M_boulterref06_Same l l = some true := by
 unfold M_boulterref06_Same
 rw [show ((l.length : Int) != (l.length : Int)) = false from by simp, iteB_false]
 have e : loop (M_boulterref06_Same_L0 l l) (0 : Int) = some (.inl ()) := by
  refine W.eq (W.list (l := l) (fun (_ : Unit) (i : Nat) => (i : Int)) (fun _ i => True) ?_ ?_ () trivial)
  ·intro _ _
   unfold M_boulterref06_Same_L0
   refine W.iteP (fun h => by omega) fun _ => W.ret rfl
  ·intro _ i hi _
   unfold M_boulterref06_Same_L0
   refine W.iteP (fun _ => ?_) fun h => by omega
   try simp only []
   rw [ixV_get hi, Option.bind_some, Option.bind_some, eqG_self (by kernel_rfl) (by kernel_rfl), Option.bind_some]
   exact W.ret ⟨(), by rw [ek64 (by omega)], trivial⟩
 rw [e]
 rfl
theorem same_selfV (l : List Pr) (hl : l.length ≤ 1000) : M_boulterref06_Same_sVO l l = some true := same_self l hl
theorem rise_ok {l : List Pr} (h : Srt l) (hl : l.length ≤ 1000) : loop (M_boulterlaw07_AttrsMerge_L0 l) (1 : Int) = some (.inl ()) := by
 refine W.eq (W.loop (fun u => ∃ i : Nat, 1 ≤ i ∧ i ≤ max 1 l.length ∧ u = (i : Int)) (fun u => (l.length + 1 - u).toNat) ⟨1, by omega, by omega, rfl⟩ ?_)
 rintro _ ⟨i, h1, hi, rfl⟩
 unfold M_boulterlaw07_AttrsMerge_L0
 try simp only []
 refine W.iteP (fun hlt => ?_) fun _ => W.ret rfl
 have hi' : i < l.length := by omega
 have e1 : IntKind.i64.wrap ((i : Int) - 1) = ((i - 1 : Nat) : Int) := by rw [w64 (by omega) (by omega)]; omega
 rw [e1, ixV_get (show i - 1 < l.length by omega), Option.bind_some, ixV_get hi', Option.bind_some]
 have hlt2 : l[i - 1].Key < l[i].Key := (List.pairwise_iff_getElem.1 h) (i - 1) i (by omega) hi' (by omega)
 rw [show Op.bytesLess l[i - 1].Key l[i].Key = true from bless.2 hlt2, Bool.not_true, iteB_false]
 refine W.ret ⟨⟨i + 1, by omega, by omega, by rw [ek64 (by omega)]⟩, ?_⟩
 rw [ek64 (by omega)]
 omega
theorem find_fold {k : Str} : ∀ (l : List Pr) (m : Mp), Srt l → mfind (l.foldl putP m) k = match l.find? (fun p => p.Key == k) with | some p => some p.Value | none => mfind m k
 | [], m, _ => rfl
 | p :: l, m, h => by
  obtain ⟨h1, h2⟩ := List.pairwise_cons.1 h
  rw [List.foldl_cons, find_fold l _ h2, List.find?_cons]
  by_cases e : p.Key = k
  ·have hno : l.find? (fun q => q.Key == k) = none := by
    rw [List.find?_eq_none]
    intro q hq
    have := h1 q hq
    intro e2
    have e2 : q.Key = k := by simpa using e2
    rw [e2, e] at this
    exact List.lt_irrefl _ this
   rw [hno, show (p.Key == k) = true from by simpa using e]
   show mfind (mput m p.Key p.Value) k = some p.Value
   rw [mfind_mput, if_pos e.symm]
  ·rw [show (p.Key == k) = false from by simpa using e]
   cases l.find? (fun q => q.Key == k) with
   | some q => rfl
   | none =>
    show mfind (mput m p.Key p.Value) k = mfind m k
    rw [mfind_mput, if_neg (fun e2 => e e2.symm)]
theorem good_self {l g : List Pr} (h : Good l g) : Good g g := by
 refine ⟨h.srt, fun q => ?_, Nat.le_refl _⟩
 unfold lastV mapOf
 rw [find_fold g [] h.srt]
 constructor
 ·intro hq
  refine ⟨((h.mem q).1 hq).1, ?_⟩
  cases hf : g.find? (fun p => p.Key == q.Key) with
  | none =>
   rw [List.find?_eq_none] at hf
   exact (hf q hq (beq_self_eq_true _)).elim
  | some p =>
   have hp := List.mem_of_find?_eq_some hf
   have hk : p.Key = q.Key := by simpa using List.find?_some hf
   have e1 := ((h.mem q).1 hq).2
   have e2 := ((h.mem p).1 hp).2
   rw [hk, e1] at e2
   exact e2.symm
 ·rintro ⟨hv, hf⟩
  cases hg : g.find? (fun p => p.Key == q.Key) with
  | none => rw [hg] at hf; simp [mfind] at hf
  | some p =>
   rw [hg] at hf
   have hk : p.Key = q.Key := by simpa using List.find?_some hg
   have hvv : p.Value = q.Value := by simpa using hf
   have hp := List.mem_of_find?_eq_some hg
   have : p = q := by
    cases p; cases q
    simp only at hk hvv
    rw [hk, hvv]
   rw [← this]
   exact hp
theorem lawAttrsMerge (p0 : List Pr) {Q0 : Prop} (k0 : Q0) (p1 : List Pr) {Q1 : Prop} (k1 : Q1) : M_boulterlaw07_AttrsMerge p0 p1 = some true := by
 refine W.eq ?_
 unfold M_boulterlaw07_AttrsMerge
 obtain ⟨b0, e0, h0⟩ := long_ok p0
 obtain ⟨b1, e1, h1⟩ := long_ok p1
 rw [e0, Option.bind_some, e1]
 simp only [Option.bind_some]
 cases b0 with
 | true => exact W.ret rfl
 | false =>
  rw [iteB_false, Option.bind_some]
  cases b1 with
  | true => exact W.ret rfl
  | false =>
   rw [iteB_false]
   obtain ⟨l0, s0⟩ := h0 rfl
   obtain ⟨l1, s1⟩ := h1 rfl
   have hs : Shr (p0 ++ p1) := ⟨by rw [List.length_append]; omega, fun p hp => by
    rcases List.mem_append.1 hp with hp | hp
    ·exact (s0 p hp).1
    ·exact (s1 p hp).1⟩
   refine W.bind (W.mono (merge_good p0 p1 hs) fun g hg => ?_)
   have hgl := hg.len
   rw [List.length_append] at hgl
   rw [rise_ok hg.srt (by omega), Option.bind_some]
   try simp only []
   refine W.bind (W.mono (ref_good p0 p1 l0 l1) fun r hr => ?_)
   rw [← hg.eq hr, same_selfV g (by omega), Option.bind_some, iteB_true]
   have hs2 : Shr (g ++ []) := by
    rw [List.append_nil]
    refine ⟨by omega, fun p hp => ?_⟩
    obtain ⟨_, h2⟩ := (hg.mem p).1 hp
    have hk : p.Key ∈ (mapOf (p0 ++ p1)).map Prod.fst := mem_keys.2 (by unfold lastV at h2; rw [h2]; rfl)
    rcases (fold_keys (p0 ++ p1) [] (by simp)).2.2 p.Key hk with h4 | ⟨q, hq, e⟩
    ·simp at h4
    ·rw [← e]; exact hs.2 q hq
   refine W.bind (W.bind (W.mono (merge_good g [] hs2) fun g2 hg2 => ?_))
   rw [List.append_nil] at hg2
   rw [(hg2.eq (good_self hg)), same_self g (by omega), Option.bind_some]
   exact W.ret (W.ret rfl)
end Go.Av.L
