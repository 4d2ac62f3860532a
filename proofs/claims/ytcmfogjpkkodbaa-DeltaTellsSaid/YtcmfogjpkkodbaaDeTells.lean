/-
  Delta: DeltaTells.
-/
import Derived.Test.YtcmfogjpkkodbaaDeLast
import Derived.Test.YtcmfogjpkkodbaaDeR
import Derived.Test.YtcmfogjpkkodbaaDeSort
import Derived.Test.YtcmfogjpkkodbaaDeOf
namespace Go.Av.L
open Go.Av Go.Lib
set_option linter.unusedVariables false
set_option linter.unusedSimpArgs false

theorem find12_0 (l : List Mb) (n : Str) : M_boulterref12_Find_sOS l n = M_boulterref12_Find l n := rfl
/-- one round of 'put', and its end -/
def stS (m : Str) (s : List Str × Bool) (_ : Nat) (x : Str) : List Str × Bool := bif !s.2 && Op.bytesLess m x then (s.1 ++ [m] ++ [x], true) else (s.1 ++ [x], s.2)
def fnS (m : Str) (s : List Str × Bool) : List Str := bif s.2 then s.1 else s.1 ++ [m]
theorem put38 (l : List Str) (m : Str) (hl : l.length ≤ 1000) : M_boulterref38_put_sOS l m = some (insS l m) := by
  unfold M_boulterref38_put_sOS
  have h := loopL (l := l) (step := M_boulterref38_put_sOS_L0 l m) (enc := fun (s : List Str × Bool) i => (s.1, s.2, (i : Int))) (stS m) (fun s i => s.1.length ≤ i + 1 ∧ (s.2 = false → s.1.length ≤ i)) (fun s => s)
    (fun s _ => by unfold M_boulterref38_put_sOS_L0; dsimp only; rw [iteB_dec, if_neg (by omega)])
    (fun s i hi hs => by
      obtain ⟨out, d⟩ := s
      dsimp only at hs
      have hok : ∀ (k : Nat), k ≤ 3000 → okN 16 k = true := fun k hk => okN_of (by omega) (by omega)
      cases d with
      | true =>
        rw [show stS m (out, true) i l[i] = (out ++ [l[i]], true) from rfl]
        refine ⟨?_, by simp; omega⟩
        unfold M_boulterref38_put_sOS_L0; dsimp only
        rw [iteB_dec, if_pos (by omega), ixV_get hi, ek64 (by omega)]
        simp only [Bool.not_true, iteB_false, Option.bind_some, Bool.false_and, cond_false]
        rw [hok _ (by simp; omega)]; rfl
      | false =>
        have h2 := hs.2 rfl
        unfold M_boulterref38_put_sOS_L0; dsimp only
        rw [iteB_dec, if_pos (by omega), ixV_get hi, ek64 (by omega)]
        simp only [Bool.not_false, iteB_true, Option.bind_some, Bool.true_and]
        rw [hok _ (by simp; omega)]
        cases hb : Op.bytesLess m l[i] with
        | false =>
          rw [show stS m (out, false) i l[i] = (out ++ [l[i]], false) from by simp [stS, hb]]
          refine ⟨?_, by simp; omega⟩
          simp only [iteB_false, Option.bind_some, cond_false]
          rw [hok _ (by simp; omega)]; rfl
        | true =>
          rw [show stS m (out, false) i l[i] = (out ++ [m] ++ [l[i]], true) from by simp [stS, hb]]
          refine ⟨?_, by simp; omega⟩
          simp only [iteB_true, need, Option.bind_some, cond_true]
          rw [hok _ (by simp; omega)]) ([], false) ⟨by simp, by simp⟩
  have key : ∀ (l : List Str) (out : List Str) (k : Nat), foldI (stS m) (out, true) l k = (out ++ l, true) := by
    intro l
    induction l with
    | nil => intro out k; simp [foldI]
    | cons x l ih => intro out k; unfold foldI; rw [show stS m (out, true) k x = (out ++ [x], true) from rfl, ih]; simp
  have key2 : ∀ (l : List Str) (out : List Str) (k : Nat), fnS m (foldI (stS m) (out, false) l k) = out ++ insS l m := by
    intro l
    induction l with
    | nil => intro out k; rfl
    | cons x l ih =>
      intro out k
      unfold foldI insS
      cases hb : Op.bytesLess m x with
      | true => rw [show stS m (out, false) k x = (out ++ [m] ++ [x], true) from by simp [stS, hb], key]; simp [fnS]
      | false => rw [show stS m (out, false) k x = (out ++ [x], false) from by simp [stS, hb], ih]; simp
  have h1 := h.1
  have h2 := h.2
  have h3 := key2 l [] 0
  dsimp only at h1
  rw [show (([] : List Str), false, (0 : Int)) = (([] : List Str), false, ((0 : Nat) : Int)) from rfl, h1, Option.bind_some]
  generalize foldI (stS m) (([] : List Str), false) l 0 = r at h2 h3 ⊢
  obtain ⟨out, d⟩ := r
  dsimp only at h2 h3 ⊢
  cases d with
  | true => simpa [fnS] using h3
  | false =>
    rw [okN_of (by simp; omega) (by simp; omega)]
    simpa [need, fnS] using h3

theorem same26 (a b : List Str) (hb : a.length < 4611686018427387904) : ∃ r, M_boulterref26_Same a b = some r ∧ (r = true ↔ a = b) := by
  unfold M_boulterref26_Same
  rw [iteB_bne]
  by_cases h : (a.length : Int) = (b.length : Int)
  · rw [if_pos h]
    exact loopSame (same := fun x y => some (x == y)) (fun x _ y => ⟨_, rfl, by simp⟩) (by omega) hb (fun x1 => rfl)
  · rw [if_neg h]
    exact ⟨false, rfl, by simp; intro e; subst e; exact h rfl⟩

theorem foldR (q : Mb → Bool) : ∀ (l : List Mb) (s : List Str), l.foldl (fun s y => bif q y then insS s y.Name else s) s = ((l.filter q).map (·.Name)).foldl insS s
  | [], s => rfl
  | y :: l, s => by
    rw [List.foldl_cons, foldR q l]
    cases h : q y <;> simp [h]
theorem foldR2 (p q : Mb → Bool) : ∀ (l : List Mb) (s t : List Str), l.foldl (fun (s : List Str × List Str) y => (bif p y then insS s.1 y.Name else s.1, bif q y then insS s.2 y.Name else s.2)) (s, t) = (((l.filter p).map (·.Name)).foldl insS s, ((l.filter q).map (·.Name)).foldl insS t)
  | [], s, t => rfl
  | y :: l, s, t => by
    rw [List.foldl_cons, foldR2 p q l]
    cases h1 : p y <;> cases h2 : q y <;> simp [h1, h2]
theorem insS_len (l : List Str) (m : Str) : (insS l m).length = l.length + 1 := by rw [(insS_perm m l).length_eq]; rfl
theorem ofR (a b : List Mb) (ha : a.length ≤ 1000) (hb : b.length ≤ 1000) (sa : ∀ x ∈ a, Short x) (sb : ∀ x ∈ b, Short x) : M_boulterref38_Of a b = some ⟨addS a b, addS b a, chgS a b⟩ := by
  unfold M_boulterref38_Of
  rw [last38 a ha, Option.bind_some, last38 b hb, Option.bind_some]
  have la := lastL_len a
  have lb := lastL_len b
  have h := (loopL (l := lastL b) (step := M_boulterref38_Of_L0 (lastL a) (lastL b)) (enc := fun (s : List Str × List Str) i => ((i : Int), s.1, s.2)) (fun s _ y => (bif !hasN a y.Name then insS s.1 y.Name else s.1, bif hasN a y.Name && diffN a b y.Name then insS s.2 y.Name else s.2))
    (fun s i => s.1.length ≤ i ∧ s.2.length ≤ i) (fun s => s)
    (fun s _ => by unfold M_boulterref38_Of_L0; dsimp only; rw [iteB_dec, if_neg (by omega)])
    (fun s i hi hs => by
      obtain ⟨add, chg⟩ := s
      dsimp only at hs ⊢
      have hy := mem_lastL.1 (List.getElem_mem hi)
      refine ⟨?_, ?_, ?_⟩
      · unfold M_boulterref38_Of_L0; dsimp only
        rw [iteB_dec, if_pos (by omega), ixV_get hi, Option.bind_some, find12_0, find12 _ _ (by omega), Option.bind_some, ek64 (by omega), iteB_dec]
        cases hh : hasN a (lastL b)[i].Name with
        | false =>
          rw [if_pos (findI_neg.2 (by rw [hasN_lastL]; exact hh))]
          simp only [Option.bind_some, put38 add _ (by omega), Bool.not_false, cond_true, Bool.false_and, cond_false]
        | true =>
          obtain ⟨k, hk, e1, e2⟩ := findLast hh
          have hx := lastL_mem (List.getElem_mem hk)
          rw [e1, if_neg (by omega), ixV_get hk, Option.bind_some, Option.bind_some, ref07_same _ _ (sa _ hx), Option.bind_some]
          have hd : diffN a b (lastL b)[i].Name = !(sameB (lastL a)[k] (lastL b)[i]) := by unfold diffN; rw [e2, hy]
          rw [hd]
          cases sameB (lastL a)[k] (lastL b)[i] with
          | true => rfl
          | false =>
            simp only [Bool.not_false, iteB_true, Option.bind_some, put38 chg _ (show chg.length ≤ 1000 by omega), Bool.not_true, cond_false, Bool.true_and, cond_true]
      · cases hasN a (lastL b)[i].Name <;> simp [insS_len] <;> omega
      · cases hasN a (lastL b)[i].Name && diffN a b (lastL b)[i].Name <;> simp [insS_len] <;> omega) ([], []) ⟨by simp, by simp⟩).1
  have h2 := (loopL (l := lastL a) (step := M_boulterref38_Of_L1 (lastL a) (lastL b)) (enc := fun (s : List Str) i => ((i : Int), s)) (fun s _ y => bif !hasN b y.Name then insS s y.Name else s)
    (fun s i => s.length ≤ i) (fun s => s)
    (fun s _ => by unfold M_boulterref38_Of_L1; dsimp only; rw [iteB_dec, if_neg (by omega)])
    (fun s i hi hs => by
      refine ⟨?_, ?_⟩
      · unfold M_boulterref38_Of_L1; dsimp only
        rw [iteB_dec, if_pos (by omega), ixV_get hi, Option.bind_some, find12_0, find12 _ _ (by omega), Option.bind_some, ek64 (by omega), iteB_dec]
        cases hh : hasN b (lastL a)[i].Name with
        | false =>
          rw [if_pos (findI_neg.2 (by rw [hasN_lastL]; exact hh))]
          simp only [Option.bind_some, put38 s _ (show s.length ≤ 1000 by omega), Bool.not_false, cond_true]
        | true =>
          obtain ⟨k, hk, e1, e2⟩ := findLast hh
          rw [e1, if_neg (by omega)]
          rfl
      · cases hasN b (lastL a)[i].Name <;> simp [insS_len] <;> omega) [] (by simp)).1
  dsimp only at h h2
  rw [show ((0 : Int), ([] : List Str), ([] : List Str)) = (((0 : Nat) : Int), ([] : List Str), ([] : List Str)) from rfl, h, Option.bind_some, foldI_const, foldR2]
  dsimp only
  rw [show ((0 : Int), ([] : List Str)) = (((0 : Nat) : Int), ([] : List Str)) from rfl, h2, Option.bind_some, foldI_const, foldR (fun y => !hasN b y.Name)]
  unfold addS chgS
  rw [KB_part, KB_part, KB_part]
  rfl
theorem same38 (x : S_delta_Diff) (y : S_boulterref38_Diff) (h1 : x.Added = y.Added) (h2 : x.Removed = y.Removed) (h3 : x.Changed = y.Changed) (l1 : x.Added.length ≤ 1000) (l2 : x.Removed.length ≤ 1000) (l3 : x.Changed.length ≤ 1000) : M_boulterlaw38_same x y = some true := by
  unfold M_boulterlaw38_same
  obtain ⟨r1, e1, i1⟩ := same26 x.Added y.Added (by omega)
  obtain ⟨r2, e2, i2⟩ := same26 x.Removed y.Removed (by omega)
  obtain ⟨r3, e3, i3⟩ := same26 x.Changed y.Changed (by omega)
  obtain rfl := i1.2 h1
  obtain rfl := i2.2 h2
  obtain rfl := i3.2 h3
  rw [e1, e2, e3]; rfl
theorem sortedD (a : List Mb) (ha : a.length ≤ 10) (sa : ∀ x ∈ a, Short x) : M_delta_Sorted a = some (sortM (lastL a)) := by
  unfold M_delta_Sorted
  have := lastL_len a
  rw [lastD a (by omega) sa, Option.bind_some, byName38 _ (by omega)]; rfl
/-- nothing is unlike just if both are the same -/
theorem none_iff (a b : List Mb) : (addS a b = [] ∧ addS b a = [] ∧ chgS a b = []) ↔ sortM (lastL a) = sortM (lastL b) := by
  have fil : ∀ {a b : List Mb}, addS a b = [] ↔ ∀ n, hasN b n = true → hasN a n = true := by
    intro a b
    unfold addS
    rw [List.filter_eq_nil_iff]
    exact ⟨fun h n hn => by simpa using h n (mem_KB.2 hn), fun h n hn => by simpa using h n (mem_KB.1 hn)⟩
  have fch : chgS a b = [] ↔ ∀ n x y, lastOf a n = some x → lastOf b n = some y → x = y := by
    unfold chgS
    rw [List.filter_eq_nil_iff]
    constructor
    · intro h n x y hx hy
      have hb : hasN b n = true := by cases e : hasN b n with | true => rfl | false => rw [lastOf_none.2 e] at hy; cases hy
      have ha : hasN a n = true := by cases e : hasN a n with | true => rfl | false => rw [lastOf_none.2 e] at hx; cases hx
      have := h n (mem_KB.2 hb)
      simp only [ha, Bool.true_and, diffN, hx, hy] at this
      simpa [sameB_iff] using this
    · intro h n hn
      have hb := mem_KB.1 hn
      cases ha : hasN a n with
      | false => simp
      | true =>
        obtain ⟨x, hx⟩ := lastOf_some ha
        obtain ⟨y, hy⟩ := lastOf_some hb
        simp only [Bool.true_and, diffN, hx, hy]
        simp [sameB_iff.2 (h n x y hx hy)]
  rw [fil, fil, fch]
  constructor
  · rintro ⟨h1, h2, h3⟩
    refine sortM_same ?_ (lastL_uni a)
    refine (List.perm_ext_iff_of_nodup (uni_nodup (lastL_uni a)) (uni_nodup (lastL_uni b))).2 fun x => ?_
    rw [mem_lastL, mem_lastL]
    constructor
    · intro hx
      have ha : hasN a x.Name = true := by cases e : hasN a x.Name with | true => rfl | false => rw [lastOf_none.2 e] at hx; cases hx
      obtain ⟨y, hy⟩ := lastOf_some (h2 _ ha)
      rw [hy, h3 _ _ _ hx hy]
    · intro hx
      have hb : hasN b x.Name = true := by cases e : hasN b x.Name with | true => rfl | false => rw [lastOf_none.2 e] at hx; cases hx
      obtain ⟨y, hy⟩ := lastOf_some (h1 _ hb)
      rw [hy, h3 _ _ _ hy hx]
  · intro h
    have hp : (lastL a).Perm (lastL b) := (sortM_perm _).symm.trans (by rw [h]; exact sortM_perm _)
    have hn : ∀ n, hasN a n = hasN b n := fun n => by
      rw [Bool.eq_iff_iff, ← mem_names, ← mem_names]
      exact (hp.map _).mem_iff
    refine ⟨fun n hb => by rw [hn]; exact hb, fun n ha => by rw [← hn]; exact ha, fun n x y hx hy => ?_⟩
    have h1 := (lastOf_name hx)
    have h2 := (lastOf_name hy)
    exact (lastL_uni b).inj (hp.mem_iff.1 h1.2) h2.2 (by rw [h1.1, h2.1])
theorem lawDeltaTells (a : List Mb) {P : Prop} (_ : P) (b : List Mb) {Q : Prop} (_ : Q) : M_boulterlaw38_DeltaTells a b = some true := by
  unfold M_boulterlaw38_DeltaTells
  obtain ⟨ra, e1, ia⟩ := long38 a
  obtain ⟨rb, e2, ib⟩ := long38 b
  rw [e1, Option.bind_some, e2]
  cases ra with
  | true => rfl
  | false =>
    cases rb with
    | true => rfl
    | false =>
      obtain ⟨ha, sa⟩ := ia rfl
      obtain ⟨hb, sb⟩ := ib rfl
      simp only [iteB_false, Option.bind_some]
      have l1 := addS_len (a := a) (b := b) (by omega)
      have l2 := addS_len (a := b) (b := a) (by omega)
      have l3 := chgS_len (a := a) (b := b) (by omega)
      have hok : ∀ (k : Nat), k ≤ 1000 → okN 16 k = true := fun k hk => okN_of (by omega) (by omega)
      rw [ofD' a b (by omega) (by omega) sa sb, ofD' b a (by omega) (by omega) sb sa, ofR a b (by omega) (by omega) sa sb]
      simp only [Option.bind_some, M_delta_Diff_Turn, hok _ l1, hok _ l2, hok _ l3, need_true]
      rw [same38 _ _ rfl rfl rfl l1 l2 l3, same38 ⟨addS b a, addS a b, chgS b a⟩ ⟨addS b a, addS a b, chgS a b⟩ rfl rfl (chgS_symm b a) l2 l1 (by rw [chgS_symm]; exact l3)]
      simp only [Option.bind_some, iteB_true, sortedD a ha sa, sortedD b hb sb, M_delta_Diff_Empty]
      have la := lastL_len a
      have lp := (sortM_perm (lastL a)).length_eq
      obtain ⟨r, e3, i3⟩ := same12 (sortM (lastL a)) (sortM (lastL b)) (fun m hm => by have := (sa m (lastL_mem ((sortM_perm _).mem_iff.1 hm))).2; omega) (by omega)
      rw [e3]
      simp only [Option.bind_some]
      have hE : (IntKind.i64.wrap (IntKind.i64.wrap (((addS a b).length : Int) + ((addS b a).length : Int)) + ((chgS a b).length : Int)) == (0 : Int)) = r := by
        rw [Bool.eq_iff_iff, i3, ← none_iff, w64 (x := ((addS a b).length : Int) + ((addS b a).length : Int)) (by omega) (by omega), w64 (by omega) (by omega), beq_iff_eq, ← List.length_eq_zero_iff, ← List.length_eq_zero_iff, ← List.length_eq_zero_iff]
        omega
      rw [hE]
      simp only [beq_self_eq_true, iteB_true, M_boulterlaw38_awake, Option.bind_some]
end Go.Av.L
