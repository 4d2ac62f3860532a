/-
  AttrsApply: what records count, by the document.
-/
import Derived.Test.YtdpebdaplhfbjaaGreatDoorK0
import Derived.Test.YtdpebdaplhfbjaaGreatDoorK1
import Derived.Test.YtdpebdaplhfbjaaGreatDoorK2
import Derived.Test.YtdpebdaplhfbjaaGreatDoorK3
import Derived.Test.YtdpebdaplhfbjaaGreatDoorAvNum
import Derived.Test.YtdpebdaplhfbjaaGreatDoorAvSm
namespace Go.Av.L
open Go.Av Go.Lib
set_option linter.unusedVariables false
set_option linter.unusedSimpArgs false
abbrev Pr := S_api_Pair
abbrev Str := List UInt8
section
variable {K V : Type} [DecidableEq K]
theorem mfind_mput (m : List (K × V)) (k : K) (v : V) (n : K) : mfind (mput m k v) n = if n = k then some v else mfind m n := by
 induction m with
 | nil => simp only [mput, mfind]
 | cons p m ih =>
  obtain ⟨k', v'⟩ := p
  unfold mput
  by_cases h : k = k'
  ·subst h; rw [if_pos rfl]; simp only [mfind]; split <;> rfl
  ·rw [if_neg h]; simp only [mfind, ih]
   by_cases h1 : n = k'
   ·subst h1; simp [Ne.symm h]
   ·simp [h1]
end
abbrev Mp := List (Str × Str)
def putP (m : Mp) (p : Pr) : Mp := mput m p.Key p.Value
def mapOf (l : List Pr) : Mp := l.foldl putP []
def lastV (l : List Pr) (k : Str) : Option Str := mfind (mapOf l) k
theorem lastV_snoc (l : List Pr) (p : Pr) (k : Str) : lastV (l ++ [p]) k = if k = p.Key then some p.Value else lastV l k := by
 unfold lastV mapOf
 rw [List.foldl_append]
 exact mfind_mput _ _ _ _
def Srt (l : List Pr) : Prop := l.Pairwise fun a b => a.Key < b.Key
structure Good (l r : List Pr) : Prop where
 srt : Srt r
 mem : ∀ q, q ∈ r ↔ q.Value ≠ [] ∧ lastV l q.Key = some q.Value
 len : r.length ≤ l.length
theorem bless {a b : Str} : Op.bytesLess a b = true ↔ a < b := by rw [Go.Proofs.bytesLess_eq]; simp
def leP (p x : Pr) : Bool := Op.bytesLess p.Key x.Key || p.Key == x.Key
theorem leP_eq (p x : Pr) : leP p x = decide (p.Key ≤ x.Key) := by
 unfold leP
 rw [Bool.eq_iff_iff, Bool.or_eq_true, bless, beq_iff_eq, decide_eq_true_eq]
 constructor
 ·rintro (h | h)
  ·exact List.le_of_lt h
  ·rw [h]; exact List.le_refl _
 ·intro h
  exact List.le_iff_lt_or_eq.1 h
def other (p : Pr) (l : List Pr) : List Pr := l.filter fun x => !(x.Key == p.Key)
def putF (p : Pr) : List Pr → List Pr
 | [] => [p]
 | x :: l => if leP p x = true then p :: other p (x :: l) else x :: putF p l
theorem mem_other {p q : Pr} {l : List Pr} : q ∈ other p l ↔ q ∈ l ∧ q.Key ≠ p.Key := by
 unfold other; rw [List.mem_filter]; simp
theorem putF_ok (p : Pr) : ∀ {l : List Pr}, Srt l → Srt (putF p l) ∧ (∀ q, q ∈ putF p l ↔ q = p ∨ (q ∈ l ∧ q.Key ≠ p.Key)) ∧ (putF p l).length ≤ l.length + 1
 | [], _ => ⟨List.pairwise_singleton _ _, by simp [putF], by simp [putF]⟩
 | x :: l, h => by
  obtain ⟨h1, h2⟩ := List.pairwise_cons.1 h
  obtain ⟨i1, i2, i3⟩ := putF_ok p h2
  unfold putF
  rw [leP_eq]
  by_cases hx : p.Key ≤ x.Key
  ·rw [if_pos (decide_eq_true hx)]
   refine ⟨List.pairwise_cons.2 ⟨fun q hq => ?_, h.filter _⟩, fun q => by rw [List.mem_cons, mem_other], ?_⟩
   ·obtain ⟨hq1, hq2⟩ := mem_other.1 hq
    have hle : p.Key ≤ q.Key := by
     rcases List.mem_cons.1 hq1 with rfl | hq1
     ·exact hx
     ·exact List.le_trans hx (List.le_of_lt (h1 q hq1))
    rcases List.le_iff_lt_or_eq.1 hle with h3 | h3
    ·exact h3
    ·exact absurd h3.symm hq2
   ·have := List.length_filter_le (fun y : Pr => !(y.Key == p.Key)) (x :: l)
    simp only [List.length_cons, other] at this ⊢
    omega
  ·rw [if_neg (by simpa using hx)]
   have hlt : x.Key < p.Key := List.not_le.1 hx
   refine ⟨List.pairwise_cons.2 ⟨fun q hq => ?_, i1⟩, fun q => ?_, by simp only [List.length_cons]; omega⟩
   ·rcases (i2 q).1 hq with rfl | ⟨hq1, _⟩
    ·exact hlt
    ·exact h1 q hq1
   ·rw [List.mem_cons, i2, List.mem_cons]
    constructor
    ·rintro (rfl | rfl | ⟨h3, h4⟩)
     ·exact .inr ⟨.inl rfl, fun e => by rw [e] at hlt; exact List.lt_irrefl _ hlt⟩
     ·exact .inl rfl
     ·exact .inr ⟨.inr h3, h4⟩
    ·rintro (rfl | ⟨rfl | h3, h4⟩)
     ·exact .inr (.inl rfl)
     ·exact .inl rfl
     ·exact .inr (.inr ⟨h3, h4⟩)
def restF (p : Pr) (d : Bool) (l : List Pr) : List Pr := bif d then other p l else putF p l
theorem other_cons (p x : Pr) (l : List Pr) : other p (x :: l) = (if x.Key = p.Key then [] else [x]) ++ other p l := by
 unfold other
 rw [List.filter_cons]
 by_cases h : x.Key = p.Key
 ·rw [if_pos h, if_neg (by simp [h])]; rfl
 ·rw [if_neg h, if_pos (by simp [h])]; rfl
theorem put_eq (l : List Pr) (p : Pr) (hl : l.length ≤ 100) : M_boulterref07_put_sOR l p = some (putF p l) := by
 refine W.eq ?_
 unfold M_boulterref07_put_sOR
 refine W.bind (W.mono (W.list (l := l) (fun (x : List Pr × Bool) (i : Nat) => (x.1, x.2, (i : Int))) (fun x i => x.1 ++ restF p x.2 (l.drop i) = putF p l ∧ x.1.length ≤ i + x.2.toNat) ?_ ?_ ([], false) ⟨rfl, by simp⟩ (Q := fun r => r.1 ++ restF p r.2 [] = putF p l ∧ r.1.length ≤ l.length + 1)) ?_)
 ·rintro ⟨x, d⟩ ⟨hx, hxl⟩
  unfold M_boulterref07_put_sOR_L0
  refine W.iteP (fun h => by omega) fun _ => W.ret ?_
  rw [List.drop_length] at hx
  have : d.toNat ≤ 1 := by cases d <;> decide
  exact ⟨hx, by simp only at hxl ⊢; omega⟩
 ·rintro ⟨x, d⟩ i hi ⟨hx, hxl⟩
  have hxl : x.length ≤ i + d.toNat := hxl
  unfold M_boulterref07_put_sOR_L0
  refine W.iteP (fun _ => ?_) fun h => by omega
  try simp only []
  rw [ixV_get hi]
  simp only [Option.bind_some]
  rw [drop_cons hi] at hx
  have hput : ∀ (y : List Pr) (d' : Bool), y.length ≤ i + d'.toNat → y ++ ((if l[i].Key = p.Key then [] else [l[i]]) ++ restF p d' (l.drop (i + 1))) = putF p l →
    W ((iteB (!(l[i].Key == p.Key)) (need (okN 32 (y.length + ([l[i]] : List S_api_Pair).length)) <| some ((y ++ ([l[i]] : List S_api_Pair)), d')) (some (y, d')) : Option (List Pr × Bool))) fun r => r.1 ++ restF p r.2 (l.drop (i + 1)) = putF p l ∧ r.1.length ≤ i + 1 + r.2.toNat := by
   intro y d' hy he
   have : d'.toNat ≤ 1 := by cases d' <;> decide
   refine W.ite (fun h => ?_) fun h => W.ret ?_
   ·have h0 : l[i].Key ≠ p.Key := by simpa using h
    rw [if_neg h0, ← List.append_assoc] at he
    exact W.need (okN_of (by simp; omega) (by simp; omega)) (W.ret ⟨he, by simp; omega⟩)
   ·have h0 : l[i].Key = p.Key := by simpa using h
    rw [if_pos h0, List.nil_append] at he
    exact ⟨he, by simp only; omega⟩
  cases d with
  | true =>
   rw [Bool.not_true, iteB_false, Option.bind_some, iteB_false, Option.bind_some]
   refine W.bind (W.mono (hput x true hxl ?_) ?_)
   ·rw [← hx]
    show _ = x ++ other p _
    rw [other_cons]
    rfl
   ·rintro ⟨y, d'⟩ hy
    exact W.ret ⟨(y, d'), by rw [ek64 (by omega)], hy⟩
  | false =>
   rw [Bool.not_false, iteB_true, Option.bind_some]
   have hle : (Op.bytesLess p.Key l[i].Key || p.Key == l[i].Key) = leP p l[i] := rfl
   rw [hle]
   have hx' : x ++ (if leP p l[i] = true then p :: other p (l[i] :: l.drop (i + 1)) else l[i] :: putF p (l.drop (i + 1))) = putF p l := hx
   cases hlp : leP p l[i] with
   | true =>
    rw [if_pos hlp] at hx'
    rw [iteB_true]
    have hx0 : x.length ≤ i := by simpa using hxl
    refine W.bind (W.bind (W.need (okN_of (by simp; omega) (by simp; omega)) (W.ret ?_)))
    refine W.mono (hput (x ++ [p]) true (by simp; omega) ?_) ?_
    ·rw [← hx', other_cons, List.append_assoc]
     rfl
    ·rintro ⟨y, d'⟩ hy
     exact W.ret ⟨(y, d'), by rw [ek64 (by omega)], hy⟩
   | false =>
    rw [hlp, if_neg (by decide)] at hx'
    rw [iteB_false, Option.bind_some]
    have hne : l[i].Key ≠ p.Key := by
     intro e
     rw [leP_eq, e] at hlp
     have := of_decide_eq_false hlp
     exact this (List.le_refl _)
    refine W.bind (W.mono (hput x false hxl ?_) ?_)
    ·rw [if_neg hne, ← hx']
     rfl
    ·rintro ⟨y, d'⟩ hy
     exact W.ret ⟨(y, d'), by rw [ek64 (by omega)], hy⟩
 ·rintro ⟨x, d⟩ ⟨hx, hxl⟩
  have hxl : x.length ≤ l.length + 1 := hxl
  cases d with
  | true =>
   have hx : x ++ [] = putF p l := hx
   rw [List.append_nil] at hx
   simp only [Bool.not_true, iteB_false, Option.bind_some]
   exact W.ret hx
  | false =>
   have hx : x ++ [p] = putF p l := hx
   simp only [Bool.not_false, iteB_true]
   exact W.bind (W.need (okN_of (by simp; omega) (by simp; omega)) (W.ret (W.ret hx)))
def Rows (l r : List Pr) : Prop := Srt r ∧ (∀ q, q ∈ r ↔ lastV l q.Key = some q.Value) ∧ r.length ≤ l.length
theorem rows_nil : Rows [] [] := ⟨.nil, fun q => by simp [lastV, mapOf, mfind], by simp⟩
theorem rows_snoc {l r : List Pr} (h : Rows l r) (p : Pr) : Rows (l ++ [p]) (putF p r) := by
 obtain ⟨h1, h2, h3⟩ := h
 obtain ⟨k1, k2, k3⟩ := putF_ok p h1
 refine ⟨k1, fun q => ?_, by rw [List.length_append]; simp; omega⟩
 rw [k2, h2, lastV_snoc]
 by_cases e : q.Key = p.Key
 ·rw [if_pos e]
  constructor
  ·rintro (rfl | ⟨_, h⟩)
   ·rfl
   ·exact absurd e h
  ·intro h
   left
   cases q; cases p
   simp only [Option.some.injEq] at h e
   rw [e, h]
 ·rw [if_neg e]
  constructor
  ·rintro (rfl | ⟨h, _⟩)
   ·exact absurd rfl e
   ·exact h
  ·exact fun h => .inr ⟨h, e⟩
theorem ref0 (a : List Pr) (ha : a.length ≤ 40) : W (loop (M_boulterref07_Merge_L0 a) (([] : List Pr), (0 : Int))) (Rows a) := by
 refine W.list (l := a) (fun (x : List Pr) (i : Nat) => (x, (i : Int))) (fun x i => Rows (a.take i) x) ?_ ?_ [] (by rw [List.take_zero]; exact rows_nil)
 ·intro x hx
  unfold M_boulterref07_Merge_L0
  refine W.iteP (fun h => by omega) fun _ => W.ret ?_
  rw [List.take_length] at hx
  exact hx
 ·intro x i hi hx
  have hxl := hx.2.2
  rw [List.length_take] at hxl
  unfold M_boulterref07_Merge_L0
  refine W.iteP (fun _ => ?_) fun h => by omega
  try simp only []
  rw [ixV_get hi, Option.bind_some, put_eq x a[i] (by omega), Option.bind_some]
  refine W.ret ⟨_, by rw [ek64 (by omega)], ?_⟩
  rw [take_snoc (List.getElem?_eq_getElem hi)]
  exact rows_snoc hx _
theorem ref1 (a b : List Pr) (ha : a.length ≤ 40) (hb : b.length ≤ 40) {r : List Pr} (hr : Rows a r) : W (loop (M_boulterref07_Merge_L1 b) (r, (0 : Int))) (Rows (a ++ b)) := by
 refine W.list (l := b) (fun (x : List Pr) (i : Nat) => (x, (i : Int))) (fun x i => Rows (a ++ b.take i) x) ?_ ?_ r (by rw [List.take_zero, List.append_nil]; exact hr)
 ·intro x hx
  unfold M_boulterref07_Merge_L1
  refine W.iteP (fun h => by omega) fun _ => W.ret ?_
  rw [List.take_length] at hx
  exact hx
 ·intro x i hi hx
  have hxl := hx.2.2
  rw [List.length_append, List.length_take] at hxl
  unfold M_boulterref07_Merge_L1
  refine W.iteP (fun _ => ?_) fun h => by omega
  try simp only []
  rw [ixV_get hi, Option.bind_some, put_eq x b[i] (by omega), Option.bind_some]
  refine W.ret ⟨_, by rw [ek64 (by omega)], ?_⟩
  rw [take_snoc (List.getElem?_eq_getElem hi), ← List.append_assoc]
  exact rows_snoc hx _
def vals (l : List Pr) : List Pr := l.filter fun x => !(x.Value == [])
theorem ref2 (l : List Pr) (hl : l.length ≤ 100) : loop (M_boulterref07_Merge_L2 l) (([] : List Pr), (0 : Int)) = some (vals l) := by
 refine W.eq (W.list (l := l) (fun (x : List Pr) (i : Nat) => (x, (i : Int))) (fun x i => x = vals (l.take i)) ?_ ?_ [] rfl)
 ·intro x hx
  unfold M_boulterref07_Merge_L2
  refine W.iteP (fun h => by omega) fun _ => W.ret ?_
  rw [hx, List.take_length]
 ·intro x i hi hx
  have hxl : x.length ≤ i := by
   rw [hx]
   have := List.length_filter_le (fun y : Pr => !(y.Value == [])) (l.take i)
   rw [List.length_take] at this
   unfold vals
   omega
  unfold M_boulterref07_Merge_L2
  refine W.iteP (fun _ => ?_) fun h => by omega
  try simp only []
  rw [ixV_get hi]
  simp only [Option.bind_some]
  refine W.bind (W.mono (Q := fun r => r = vals (l.take (i + 1))) ?_ fun r hr => W.ret ⟨r, by rw [ek64 (by omega)], hr⟩)
  rw [take_snoc (List.getElem?_eq_getElem hi)]
  have e : vals (l.take i ++ [l[i]]) = vals (l.take i) ++ if (!(l[i].Value == [])) = true then [l[i]] else [] := by
   unfold vals
   rw [List.filter_append, List.filter_cons, List.filter_nil]
  rw [e, ← hx]
  refine W.ite (fun h => ?_) fun h => W.ret ?_
  ·rw [if_pos h]
   exact W.need (okN_of (by simp; omega) (by simp; omega)) (W.ret rfl)
  ·rw [if_neg (by rw [h]; decide), List.append_nil]
theorem ref_good (a b : List Pr) (ha : a.length ≤ 12) (hb : b.length ≤ 12) : W (M_boulterref07_Merge a b) (Good (a ++ b)) := by
 unfold M_boulterref07_Merge
 refine W.bind (W.mono (ref0 a (by omega)) fun x hx => W.bind (W.mono (ref1 a b (by omega) (by omega) hx) fun y hy => ?_))
 obtain ⟨h1, h2, h3⟩ := hy
 have hyl := h3
 rw [List.length_append] at hyl
 rw [ref2 y (by omega), Option.bind_some]
 refine W.ret ⟨h1.filter _, fun q => ?_, Nat.le_trans (List.length_filter_le _ _) h3⟩
 unfold vals
 rw [List.mem_filter, h2]
 constructor
 ·rintro ⟨k1, k2⟩
  exact ⟨by simpa using k2, k1⟩
 ·rintro ⟨k1, k2⟩
  exact ⟨k2, by simpa using k1⟩
theorem long_ok (l : List Pr) : ∃ b, M_boulterlaw07_long l = some b ∧ (b = false → l.length ≤ 12 ∧ ∀ p ∈ l, p.Key.length ≤ 300 ∧ p.Value.length ≤ 300) := by
 by_cases hl : l.length ≤ 12
 ·have hw : W (loop (M_boulterlaw07_long_L0 l) (0 : Int)) fun o => o = .inr true ∨ (o = .inl () ∧ ∀ p ∈ l, p.Key.length ≤ 300 ∧ p.Value.length ≤ 300) := by
   refine W.list (l := l) (fun (_ : Unit) (i : Nat) => (i : Int)) (fun _ i => ∀ p ∈ l.take i, p.Key.length ≤ 300 ∧ p.Value.length ≤ 300) ?_ ?_ () (by simp)
   ·intro _ hx
    unfold M_boulterlaw07_long_L0
    refine W.iteP (fun h => by omega) fun _ => W.ret ?_
    rw [List.take_length] at hx
    exact .inr ⟨rfl, hx⟩
   ·intro _ i hi hx
    unfold M_boulterlaw07_long_L0
    refine W.iteP (fun _ => ?_) fun h => by omega
    try simp only []
    rw [ixV_get hi, Option.bind_some]
    refine W.ite (fun h => W.ret (.inl rfl)) fun h => W.ret ⟨(), by rw [ek64 (by omega)], ?_⟩
    simp only [Bool.or_eq_false_iff, decide_eq_false_iff_not] at h
    rw [take_snoc (List.getElem?_eq_getElem hi)]
    intro p hp
    rcases List.mem_append.1 hp with hp | hp
    ·exact hx p hp
    ·rw [List.mem_singleton] at hp
     subst hp
     omega
  obtain ⟨o, e, ho⟩ := hw
  unfold M_boulterlaw07_long
  rw [decide_eq_false (by omega), iteB_false, e, Option.bind_some]
  rcases ho with rfl | ⟨rfl, h⟩
  ·exact ⟨true, rfl, fun h => by cases h⟩
  ·exact ⟨false, rfl, fun _ => ⟨hl, h⟩⟩
 ·unfold M_boulterlaw07_long
  rw [decide_eq_true (by omega), iteB_true]
  exact ⟨true, rfl, fun h => by cases h⟩
theorem same_self (l : List Pr) (hl : l.length ≤ 1000) : M_boulterref06_Same l l = some true := by
 unfold M_boulterref06_Same
 rw [show ((l.length : Int) != (l.length : Int)) = false from by simp, iteB_false]
 have e : loop (M_boulterref06_Same_L0 l l) (0 : Int) = some (.inl ()) := by
  refine W.eq (W.list (l := l) (fun (_ : Unit) (i : Nat) => (i : Int)) (fun _ i => True) ?_ ?_ () trivial)
  ·intro _ _
   unfold M_boulterref06_Same_L0
   refine W.iteP (fun h => by omega) fun _ => W.ret rfl
  ·intro _ i hi _
   unfold M_boulterref06_Same_L0
   refine W.iteP (fun _ => ?_) fun h => by omega
   try simp only []
   rw [ixV_get hi, Option.bind_some, Option.bind_some, eqG_self (by kernel_rfl) (by kernel_rfl), Option.bind_some]
   exact W.ret ⟨(), by rw [ek64 (by omega)], trivial⟩
 rw [e]
 rfl
theorem lastV_mem : ∀ {l : List Pr} {k v : Str}, lastV l k = some v → ∃ p ∈ l, p.Value = v := by
 intro l k v h
 have key : ∀ (l : List Pr) (m : Mp), mfind (l.foldl putP m) k = some v → (∃ p ∈ l, p.Value = v) ∨ mfind m k = some v := by
  intro l
  induction l with
  | nil => intro m h; exact .inr h
  | cons p l ih =>
   intro m h
   rcases ih (putP m p) h with ⟨q, hq, e⟩ | h
   ·exact .inl ⟨q, .tail _ hq, e⟩
   ·have h : mfind (mput m p.Key p.Value) k = some v := h
    rw [mfind_mput] at h
    by_cases e : k = p.Key
    ·rw [if_pos e] at h
     injection h with h
     exact .inl ⟨p, .head _, h⟩
    ·rw [if_neg e] at h
     exact .inr h
 rcases key l [] h with h | h
 ·exact h
 ·simp [mfind] at h
end Go.Av.L
