/-
  Delta: DeltaApplies.
-/
import Derived.Test.YtcmfogjpkkodbaaDeR
import Derived.Test.YtcmfogjpkkodbaaDeSort
import Derived.Test.YtcmfogjpkkodbaaDeIns
import Derived.Test.YtcmfogjpkkodbaaDeOf
namespace Go.Av.L
open Go.Av Go.Lib
set_option linter.unusedVariables false
set_option linter.unusedSimpArgs false

/-! ### the document -/
theorem in38 (l : List Str) (n : Str) (hl : l.length ≤ 9223372036854775807) : M_boulterref38_in l n = some (l.any fun x => x == n) := by
  unfold M_boulterref38_in
  have h := loopAny (l := l) (step := M_boulterref38_in_L0 l n) (fun x => x == n) (.inr true) (.inl ()) hl
    (by unfold M_boulterref38_in_L0; dsimp only; rw [iteB_dec, if_neg (by omega)])
    (fun i hi => by
      unfold M_boulterref38_in_L0
      dsimp only
      rw [iteB_dec, if_pos (by omega), ixV_get hi, Option.bind_some]
      cases l[i] == n <;> rfl)
  rw [h]
  cases l.any fun x => x == n <;> rfl
def inS (l : List Str) (n : Str) : Bool := l.any fun x => x == n
theorem foldIns (q : Mb → Bool) : ∀ (l s : List Mb), l.foldl (fun s y => bif q y then insM s y else s) s = (l.filter q).foldl insM s
  | [], s => rfl
  | y :: l, s => by
    rw [List.foldl_cons, foldIns q l]
    cases h : q y <;> simp [h]
theorem insM_len (l : List Mb) (m : Mb) : (insM l m).length = l.length + 1 := by rw [(insM_perm m l).length_eq]; rfl
/-- what stays of the first one; what comes of the second one -/
def stayL (a : List Mb) (r c : List Str) : List Mb := (lastL a).filter fun y => !(inS r y.Name) && !(inS c y.Name)
def comeL (b : List Mb) (d c : List Str) : List Mb := (lastL b).filter fun y => inS d y.Name || inS c y.Name
theorem applyR (a b : List Mb) (d : S_boulterref38_Diff) (ha : a.length ≤ 100) (hb : b.length ≤ 100) (h1 : d.Added.length ≤ 9223372036854775807) (h2 : d.Removed.length ≤ 9223372036854775807) (h3 : d.Changed.length ≤ 9223372036854775807) :
    M_boulterref38_Apply a d b = some (sortM (stayL a d.Removed d.Changed ++ comeL b d.Added d.Changed)) := by
  unfold M_boulterref38_Apply
  rw [last38 a (by omega), Option.bind_some, last38 b (by omega), Option.bind_some]
  have la := lastL_len a
  have lb := lastL_len b
  have g1 := loopL (l := lastL a) (step := M_boulterref38_Apply_L0 d (lastL a)) (enc := fun (s : List Mb) i => (s, (i : Int))) (fun s _ y => bif !(inS d.Removed y.Name) && !(inS d.Changed y.Name) then insM s y else s)
    (fun s i => s.length ≤ i) (fun s => s)
    (fun s _ => by unfold M_boulterref38_Apply_L0; dsimp only; rw [iteB_dec, if_neg (by omega)])
    (fun s i hi hs => by
      refine ⟨?_, ?_⟩
      · unfold M_boulterref38_Apply_L0; dsimp only
        rw [iteB_dec, if_pos (by omega), ixV_get hi]
        simp only [Option.bind_some, in38 _ _ (show d.Removed.length ≤ 9223372036854775807 by omega), in38 _ _ (show d.Changed.length ≤ 9223372036854775807 by omega), insert38 s _ (show s.length ≤ 1000 by omega)]
        rw [ek64 (by omega), iteB_and, Option.bind_some]
        show _ = some (Sum.inl (bif !(d.Removed.any fun x => x == (lastL a)[i].Name) && !(d.Changed.any fun x => x == (lastL a)[i].Name) then _ else _, _))
        cases !(d.Removed.any fun x => x == (lastL a)[i].Name) && !(d.Changed.any fun x => x == (lastL a)[i].Name) <;> rfl
      · cases !(inS d.Removed (lastL a)[i].Name) && !(inS d.Changed (lastL a)[i].Name) <;> simp [insM_len] <;> omega) [] (by simp)
  have g1' := g1.1
  have k1 := g1.2
  rw [foldI_const, foldIns] at g1' k1
  have g2 := (loopL (l := lastL b) (step := M_boulterref38_Apply_L1 d (lastL b)) (enc := fun (s : List Mb) i => (s, (i : Int))) (fun s _ y => bif inS d.Added y.Name || inS d.Changed y.Name then insM s y else s)
    (fun s i => s.length ≤ 100 + i) (fun s => s)
    (fun s _ => by unfold M_boulterref38_Apply_L1; dsimp only; rw [iteB_dec, if_neg (by omega)])
    (fun s i hi hs => by
      refine ⟨?_, ?_⟩
      · unfold M_boulterref38_Apply_L1; dsimp only
        rw [iteB_dec, if_pos (by omega), ixV_get hi]
        simp only [Option.bind_some, in38 _ _ (show d.Added.length ≤ 9223372036854775807 by omega), in38 _ _ (show d.Changed.length ≤ 9223372036854775807 by omega), insert38 s _ (show s.length ≤ 1000 by omega)]
        rw [ek64 (by omega), iteB_or, Option.bind_some]
        show _ = some (Sum.inl (bif (d.Added.any fun x => x == (lastL b)[i].Name) || (d.Changed.any fun x => x == (lastL b)[i].Name) then _ else _, _))
        cases (d.Added.any fun x => x == (lastL b)[i].Name) || (d.Changed.any fun x => x == (lastL b)[i].Name) <;> rfl
      · cases inS d.Added (lastL b)[i].Name || inS d.Changed (lastL b)[i].Name <;> simp [insM_len] <;> omega) (((lastL a).filter fun y => !(inS d.Removed y.Name) && !(inS d.Changed y.Name)).foldl insM []) (by omega)).1
  rw [foldI_const, foldIns] at g2
  rw [show (([] : List Mb), (0 : Int)) = (([] : List Mb), ((0 : Nat) : Int)) from rfl, g1', Option.bind_some]
  rw [show ∀ x : List Mb, (x, (0 : Int)) = (x, ((0 : Nat) : Int)) from fun _ => rfl, g2, Option.bind_some]
  unfold sortM stayL comeL
  rw [List.foldl_append]
theorem sortedR (b : List Mb) (hb : b.length ≤ 100) : M_boulterref38_Sorted b = some (sortM (lastL b)) := by
  unfold M_boulterref38_Sorted
  have lb := lastL_len b
  rw [last38 b (by omega), Option.bind_some]
  have g := (loopL (l := lastL b) (step := M_boulterref38_Sorted_L0 (lastL b)) (enc := fun (s : List Mb) i => (s, (i : Int))) (fun s _ y => insM s y) (fun s i => s.length ≤ i) (fun s => s)
    (fun s _ => by unfold M_boulterref38_Sorted_L0; dsimp only; rw [iteB_dec, if_neg (by omega)])
    (fun s i hi hs => by
      refine ⟨?_, by rw [insM_len]; omega⟩
      unfold M_boulterref38_Sorted_L0; dsimp only
      rw [iteB_dec, if_pos (by omega), ixV_get hi, Option.bind_some, insert38 s _ (by omega), Option.bind_some, ek64 (by omega)]) [] (by simp)).1
  rw [show (([] : List Mb), (0 : Int)) = (([] : List Mb), ((0 : Nat) : Int)) from rfl, g, foldI_const]; rfl

/-! ### the program -/
theorem dels (l : List Str) (m : Pl) (hl : l.length ≤ 9223372036854775807) : loop (M_delta_Apply_L1 l) (m, (0 : Int)) = some (l.foldl mdel m) := by
  have g := (loopL (l := l) (step := M_delta_Apply_L1 l) (enc := fun (s : Pl) i => (s, (i : Int))) (fun s _ n => mdel s n) (fun _ _ => True) (fun s => s)
    (fun s _ => by unfold M_delta_Apply_L1; dsimp only; rw [iteB_dec, if_neg (by omega)])
    (fun s i hi _ => by
      refine ⟨?_, trivial⟩
      unfold M_delta_Apply_L1; dsimp only
      rw [iteB_dec, if_pos (by omega), ixV_get hi, Option.bind_some, ek63 (by omega)]) m trivial).1
  rw [foldI_const] at g
  exact g
/-- names that are wanted, with their places -/
def wantF (y : Pl) (s : Pl) (n : Str) : Pl := bif (mfind y n).isSome then mput s n ((mfind y n).getD 0) else s
theorem wants (l : List Str) (y m : Pl) (hl : l.length ≤ 9223372036854775807) : loop (M_delta_Apply_L3 y l) (m, (0 : Int)) = some (l.foldl (wantF y) m) := by
  have g := (loopL (l := l) (step := M_delta_Apply_L3 y l) (enc := fun (s : Pl) i => (s, (i : Int))) (fun s _ n => wantF y s n) (fun _ _ => True) (fun s => s)
    (fun s _ => by unfold M_delta_Apply_L3; dsimp only; rw [iteB_dec, if_neg (by omega)])
    (fun s i hi _ => by
      refine ⟨?_, trivial⟩
      unfold M_delta_Apply_L3; dsimp only
      rw [iteB_dec, if_pos (by omega), ixV_get hi, Option.bind_some, ek63 (by omega)]
      unfold wantF
      cases (mfind y l[i]).isSome <;> rfl) m trivial).1
  rw [foldI_const] at g
  exact g
theorem wants_find (y : Pl) : ∀ (l : List Str) (m : Pl) (n : Str), mfind (l.foldl (wantF y) m) n = if n ∈ l ∧ (mfind y n).isSome = true then mfind y n else mfind m n
  | [], m, n => by simp
  | k :: l, m, n => by
    rw [List.foldl_cons, wants_find y l]
    unfold wantF
    by_cases h : n ∈ l ∧ (mfind y n).isSome = true
    · rw [if_pos h, if_pos ⟨by simp [h.1], h.2⟩]
    · rw [if_neg h]
      by_cases e : n = k
      · subst e
        cases hs : (mfind y n).isSome with
        | false => simp
        | true =>
          simp only [cond_true, List.mem_cons, true_or, true_and, if_true]
          rw [mfind_mput, if_pos rfl]
          cases hy : mfind y n with
          | none => rw [hy] at hs; cases hs
          | some v => rfl
      · have : ¬ (n ∈ k :: l ∧ (mfind y n).isSome = true) := by simp [e]; intro h1; simpa using fun h2 => h ⟨h1, h2⟩
        rw [if_neg this]
        cases (mfind y k).isSome with
        | false => rfl
        | true => simp only [cond_true]; rw [mfind_mput, if_neg e]
theorem applyD (a b : List Mb) (d : S_delta_Diff) (ha : a.length ≤ 10) (hb : b.length ≤ 10) (sa : ∀ x ∈ a, Short x) (sb : ∀ x ∈ b, Short x) (h1 : d.Added.length ≤ 9223372036854775807) (h2 : d.Removed.length ≤ 9223372036854775807) (h3 : d.Changed.length ≤ 9223372036854775807) :
    M_delta_Apply a d b = some (sortM (stayL a d.Removed d.Changed ++ comeL b d.Added d.Changed)) := by
  unfold M_delta_Apply
  rw [places38 a (by omega), Option.bind_some, places38 b (by omega), Option.bind_some]
  have e1 : loop (M_delta_Apply_L0 d) (placesL a, (0 : Int)) = some (d.Changed.foldl mdel (d.Removed.foldl mdel (placesL a))) := by
    have s0 : ∀ m, M_delta_Apply_L0 d (m, (0 : Int)) = some (.inl (d.Removed.foldl mdel m, 1)) := fun m => by
      unfold M_delta_Apply_L0; dsimp only
      rw [iteB_dec, if_pos (by simp), show ixV ([d.Removed, d.Changed] : List (List Str)) 0 = some d.Removed from rfl, Option.bind_some, dels _ _ h2]; rfl
    have s1 : ∀ m, M_delta_Apply_L0 d (m, (1 : Int)) = some (.inl (d.Changed.foldl mdel m, 2)) := fun m => by
      unfold M_delta_Apply_L0; dsimp only
      rw [iteB_dec, if_pos (by simp), show ixV ([d.Removed, d.Changed] : List (List Str)) 1 = some d.Changed from rfl, Option.bind_some, dels _ _ h3]; rfl
    have s2 : ∀ m, M_delta_Apply_L0 d (m, (2 : Int)) = some (.inr m) := fun m => by
      unfold M_delta_Apply_L0; dsimp only
      rw [iteB_dec, if_neg (by simp)]
    rw [loop_step (s0 _), loop_step (s1 _), loop_done (s2 _)]
  have e2 : loop (M_delta_Apply_L2 d (placesL b)) (([] : Pl), (0 : Int)) = some (d.Changed.foldl (wantF (placesL b)) (d.Added.foldl (wantF (placesL b)) [])) := by
    have s0 : ∀ m, M_delta_Apply_L2 d (placesL b) (m, (0 : Int)) = some (.inl (d.Added.foldl (wantF (placesL b)) m, 1)) := fun m => by
      unfold M_delta_Apply_L2; dsimp only
      rw [iteB_dec, if_pos (by simp), show ixV ([d.Added, d.Changed] : List (List Str)) 0 = some d.Added from rfl, Option.bind_some, wants _ _ _ h1]; rfl
    have s1 : ∀ m, M_delta_Apply_L2 d (placesL b) (m, (1 : Int)) = some (.inl (d.Changed.foldl (wantF (placesL b)) m, 2)) := fun m => by
      unfold M_delta_Apply_L2; dsimp only
      rw [iteB_dec, if_pos (by simp), show ixV ([d.Added, d.Changed] : List (List Str)) 1 = some d.Changed from rfl, Option.bind_some, wants _ _ _ h3]; rfl
    have s2 : ∀ m, M_delta_Apply_L2 d (placesL b) (m, (2 : Int)) = some (.inr m) := fun m => by
      unfold M_delta_Apply_L2; dsimp only
      rw [iteB_dec, if_neg (by simp)]
    rw [loop_step (s0 _), loop_step (s1 _), loop_done (s2 _)]
  rw [e1, Option.bind_some, e2, Option.bind_some]
  have hin : ∀ (l : List Str) (n : Str), inS l n = true ↔ n ∈ l := fun l n => by simp [inS]
  obtain ⟨d1, d2⟩ := mdels (placesL_nodup a) d.Removed (placesL_nodup a)
  obtain ⟨d3, d4⟩ := mdels (placesL_nodup a) d.Changed d1
  have k1 : M_delta_kept a (d.Changed.foldl mdel (d.Removed.foldl mdel (placesL a))) = some (stayL a d.Removed d.Changed) := by
    refine kept38 a _ _ (by omega) sa fun x _ => ?_
    rw [d4, d2, placesL_find]
    cases i1 : inS d.Removed x.Name <;> cases i2 : inS d.Changed x.Name
    · rw [if_neg (by rw [← hin, i2]; simp), if_neg (by rw [← hin, i1]; simp)]; rfl
    · rw [if_pos ((hin _ _).1 i2)]; rfl
    · rw [if_neg (by rw [← hin, i2]; simp), if_pos ((hin _ _).1 i1)]; rfl
    · rw [if_pos ((hin _ _).1 i2)]; rfl
  have k2 : M_delta_kept b (d.Changed.foldl (wantF (placesL b)) (d.Added.foldl (wantF (placesL b)) [])) = some (comeL b d.Added d.Changed) := by
    refine kept38 b _ _ (by omega) sb fun x _ => ?_
    rw [wants_find, wants_find, placesL_find]
    cases i1 : inS d.Added x.Name <;> cases i2 : inS d.Changed x.Name
    · rw [if_neg (by rw [← hin, i2]; simp), if_neg (by rw [← hin, i1]; simp)]; rfl
    · cases hs : lastIx b x.Name with
      | none => simp [mfind]
      | some j => rw [if_pos ⟨(hin _ _).1 i2, rfl⟩]; rfl
    · cases hs : lastIx b x.Name with
      | none => simp [mfind]
      | some j => rw [if_neg (by rw [← hin, i2]; simp), if_pos ⟨(hin _ _).1 i1, rfl⟩]; rfl
    · cases hs : lastIx b x.Name with
      | none => simp [mfind]
      | some j => rw [if_pos ⟨(hin _ _).1 i2, rfl⟩]; rfl
  have la := lastL_len a
  have lb := lastL_len b
  have l1 : (stayL a d.Removed d.Changed).length ≤ 10 := Nat.le_trans (List.length_filter_le _ _) (by omega)
  have l2 : (comeL b d.Added d.Changed).length ≤ 10 := Nat.le_trans (List.length_filter_le _ _) (by omega)
  rw [k1, Option.bind_some, k2, Option.bind_some, okN_of (by omega) (by omega), need_true, byName38 _ (by simp; omega)]
  rfl
/-- the difference of two lists makes the second one of the first one -/
theorem apply_of (a b : List Mb) : sortM (stayL a (addS b a) (chgS a b) ++ comeL b (addS a b) (chgS a b)) = sortM (lastL b) := by
  have hin : ∀ (l : List Str) (n : Str), inS l n = true ↔ n ∈ l := fun l n => by simp [inS]
  have hadd : ∀ (a b : List Mb) n, inS (addS a b) n = (hasN b n && !hasN a n) := fun a b n => by
    rw [Bool.eq_iff_iff, hin, addS, List.mem_filter, mem_KB]; simp
  have hchg : ∀ n, inS (chgS a b) n = (hasN b n && (hasN a n && diffN a b n)) := fun n => by
    rw [Bool.eq_iff_iff, hin, chgS, List.mem_filter, mem_KB]; simp
  have names : ∀ {l : List Mb} {x : Mb}, x ∈ lastL l → hasN l x.Name = true := fun h => mem_names.1 (List.mem_map.2 ⟨_, h, rfl⟩)
  have stay : ∀ x, x ∈ stayL a (addS b a) (chgS a b) ↔ x ∈ lastL a ∧ x ∈ lastL b := by
    intro x
    unfold stayL
    rw [List.mem_filter, hadd, hchg]
    constructor
    · rintro ⟨hx, h⟩
      refine ⟨hx, ?_⟩
      have h1 := names hx
      rw [h1] at h
      cases h2 : hasN b x.Name with
      | false => rw [h2] at h; simp at h
      | true =>
        rw [h2] at h
        obtain ⟨y, hy⟩ := lastOf_some h2
        have hx' := mem_lastL.1 hx
        simp only [diffN, hx', hy, Bool.true_and, Bool.not_true, Bool.and_false, Bool.not_false, Bool.not_not] at h
        rw [sameB_iff] at h
        rw [mem_lastL, hy, h]
    · rintro ⟨hx, hy⟩
      refine ⟨hx, ?_⟩
      rw [names hx, names hy]
      simp only [diffN, mem_lastL.1 hx, mem_lastL.1 hy]
      simp [sameB_iff.2 rfl]
  have come : ∀ x, x ∈ comeL b (addS a b) (chgS a b) ↔ x ∈ lastL b ∧ x ∉ lastL a := by
    intro x
    unfold comeL
    rw [List.mem_filter, hadd, hchg]
    refine and_congr_right fun hy => ?_
    rw [names hy]
    cases h2 : hasN a x.Name with
    | false =>
      simp only [Bool.not_false, Bool.and_true, Bool.true_or, true_iff]
      intro hx
      rw [names hx] at h2; cases h2
    | true =>
      obtain ⟨y, hx⟩ := lastOf_some h2
      simp only [diffN, hx, mem_lastL.1 hy]
      rw [mem_lastL, hx]
      cases h3 : sameB y x with
      | true => rw [sameB_iff.1 h3]; simp
      | false =>
        have : y ≠ x := fun e => by rw [sameB_iff.2 e] at h3; cases h3
        simpa using this
  have hu : ∀ {l : List Mb} {q : Mb → Bool}, Uni l → (l.filter q).Nodup := fun h => List.Nodup.sublist List.filter_sublist (uni_nodup h)
  have hn : (stayL a (addS b a) (chgS a b) ++ comeL b (addS a b) (chgS a b)).Nodup := by
    rw [List.nodup_append]
    refine ⟨hu (lastL_uni a), hu (lastL_uni b), fun x hx y hy e => ?_⟩
    subst e
    exact ((come x).1 hy).2 ((stay x).1 hx).1
  have hp : (stayL a (addS b a) (chgS a b) ++ comeL b (addS a b) (chgS a b)).Perm (lastL b) := by
    refine (List.perm_ext_iff_of_nodup hn (uni_nodup (lastL_uni b))).2 fun x => ?_
    rw [List.mem_append, stay, come]
    by_cases h : x ∈ lastL a <;> simp [h]
  refine sortM_same hp ?_
  exact ((hp.map _).nodup_iff).2 (lastL_uni b)
theorem lawDeltaApplies (a : List Mb) {P : Prop} (_ : P) (b : List Mb) {Q : Prop} (_ : Q) (d : S_delta_Diff) (hd0 : okL okT d.Added ∧ okL okT d.Removed ∧ okL okT d.Changed ∧ True) : M_boulterlaw38_DeltaApplies a b d = some true := by
  unfold M_boulterlaw38_DeltaApplies
  obtain ⟨ra, e1, ia⟩ := long38 a
  obtain ⟨rb, e2, ib⟩ := long38 b
  rw [e1, Option.bind_some, e2]
  cases ra with
  | true => rfl
  | false =>
    cases rb with
    | true => rfl
    | false =>
      obtain ⟨ha, sa⟩ := ia rfl
      obtain ⟨hb, sb⟩ := ib rfl
      simp only [iteB_false, Option.bind_some, Bool.false_or]
      rw [iteB_dec]
      have hd : d.Added.length ≤ 9223372036854775807 ∧ d.Removed.length ≤ 9223372036854775807 ∧ d.Changed.length ≤ 9223372036854775807 := ⟨hd0.1.1, hd0.2.1.1, hd0.2.2.1.1⟩
      by_cases hl : IntKind.i64.wrap (IntKind.i64.wrap ((d.Added.length : Int) + (d.Removed.length : Int)) + (d.Changed.length : Int)) > 20
      · rw [if_pos hl]; rfl
      · rw [if_neg hl]
        have inner : ∀ l : List Str, l.length ≤ 9223372036854775807 → loop (M_boulterlaw38_DeltaApplies_L1 l) 0 = some (bif l.any (fun s => decide ((s.length : Int) > 600)) then .inr true else .inl ()) := fun l h => loopAny (l := l) _ _ _ (by omega)
          (by unfold M_boulterlaw38_DeltaApplies_L1; dsimp only; rw [iteB_dec, if_neg (by omega)])
          (fun i hi => by
            unfold M_boulterlaw38_DeltaApplies_L1
            dsimp only
            rw [iteB_dec, if_pos (by omega), ixV_get hi, Option.bind_some]
            cases decide ((l[i].length : Int) > 600) <;> rfl)
        have outer := loopAny (l := ([d.Added, d.Removed, d.Changed] : List (List Str))) (step := M_boulterlaw38_DeltaApplies_L0 d) (fun l => l.any fun s => decide ((s.length : Int) > 600)) (.inr true) (.inl ()) (by simp)
          (by unfold M_boulterlaw38_DeltaApplies_L0; dsimp only; rw [iteB_dec, if_neg (by simp)])
          (fun i hi => by
            unfold M_boulterlaw38_DeltaApplies_L0
            dsimp only
            rw [iteB_dec, if_pos (by omega), ixV_get hi, Option.bind_some, inner _ (by
              have hm := List.getElem_mem hi
              simp only [List.mem_cons, List.not_mem_nil, or_false] at hm
              rcases hm with e | e | e <;> rw [e] <;> omega), Option.bind_some]
            cases ([d.Added, d.Removed, d.Changed] : List (List Str))[i].any fun s => decide ((s.length : Int) > 600) <;> rfl)
        rw [outer, Option.bind_some]
        cases ([d.Added, d.Removed, d.Changed] : List (List Str)).any fun l => l.any fun s => decide ((s.length : Int) > 600) with
        | true => rfl
        | false =>
          simp only [cond_false]
          have l1 := addS_len (a := a) (b := b) (by omega)
          have l2 := addS_len (a := b) (b := a) (by omega)
          have l3 := chgS_len (a := a) (b := b) (by omega)
          rw [applyR a b _ (by omega) (by omega) (by dsimp only; omega) (by dsimp only; omega) (by dsimp only; omega), applyD a b d ha hb sa sb (by omega) (by omega) (by omega), ofD' a b (by omega) (by omega) sa sb, sortedR b (by omega)]
          simp only [Option.bind_some]
          rw [applyD a b ⟨addS a b, addS b a, chgS a b⟩ ha hb sa sb (by dsimp only; omega) (by dsimp only; omega) (by dsimp only; omega)]
          dsimp only
          rw [apply_of]
          have same : ∀ l : List Mb, (∀ x ∈ l, Short x) → l.length ≤ 1000 → M_boulterref12_Same_sOO l l = some true := fun l hs hl => by
            obtain ⟨r, e, i⟩ := same12 l l (fun m hm => by have := (hs m hm).2; omega) (by omega)
            rw [e, i.2 rfl]
          have lb := lastL_len b
          have la := lastL_len a
          have q1 : (stayL a d.Removed d.Changed ++ comeL b d.Added d.Changed).length ≤ 1000 := by
            have := List.length_filter_le (fun y : Mb => !(inS d.Removed y.Name) && !(inS d.Changed y.Name)) (lastL a)
            have := List.length_filter_le (fun y : Mb => inS d.Added y.Name || inS d.Changed y.Name) (lastL b)
            rw [List.length_append]; unfold stayL comeL; omega
          rw [same _ (fun x hx => ?_) (by rw [(sortM_perm _).length_eq]; exact q1)]
          · simp only [Option.bind_some, iteB_true]
            rw [same _ (fun x hx => sb x (lastL_mem ((sortM_perm _).mem_iff.1 hx))) (by rw [(sortM_perm _).length_eq]; omega)]
            rfl
          · rcases List.mem_append.1 ((sortM_perm _).mem_iff.1 hx) with h | h
            · exact sa x (lastL_mem (List.mem_filter.1 h).1)
            · exact sb x (lastL_mem (List.mem_filter.1 h).1)
end Go.Av.L
