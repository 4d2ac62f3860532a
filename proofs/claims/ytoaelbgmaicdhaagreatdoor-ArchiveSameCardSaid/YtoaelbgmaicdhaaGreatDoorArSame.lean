/-
  ArchiveSame: two members, and two lists, are one just if all of them is; the last member of a name is found.
-/
import Derived.Test.YtoaelbgmaicdhaaGreatDoorKAll
import Derived.Test.YtoaelbgmaicdhaaGreatDoorAvNum
import Derived.Test.YtoaelbgmaicdhaaGreatDoorAvSm
namespace Go.Av.L
open Go.Av Go.Lib
set_option linter.unusedVariables false
set_option linter.unusedSimpArgs false
abbrev Pr := S_api_Pair
abbrev Mb := S_api_Member
abbrev Str := List UInt8
theorem all_loop {step : Int → Option (Int ⊕ (Unit ⊕ Bool))} {n : Nat} {R : Nat → Bool} (hn : n ≤ 1000) (hstep : ∀ i : Nat, i < n → step (i : Int) = some (bif R i then .inl (IntKind.i64.wrap ((i : Int) + 1)) else .inr (.inr false))) (hend : step (n : Int) = some (.inr (.inl ()))) :
    loop step 0 = some (bif (List.range n).all R then .inl () else .inr false) := by
  refine W.eq (W.loop (fun s => ∃ i : Nat, s = i ∧ i ≤ n ∧ ∀ j, j < i → R j = true) (fun s => n - s.toNat) ⟨0, rfl, by omega, fun j h => by omega⟩ ?_)
  rintro _ ⟨i, rfl, hi, hall⟩
  by_cases hlt : i < n
  · rw [hstep i hlt]
    cases hR : R i
    · refine W.ret ?_
      have : (List.range n).all R = false := by
        rw [List.all_eq_false]
        exact ⟨i, List.mem_range.2 hlt, by rw [hR]; simp⟩
      rw [this]; rfl
    · rw [cond_true, ek64 (by omega)]
      refine W.ret ⟨⟨i + 1, rfl, by omega, fun j hj => ?_⟩, by simp only [Int.toNat_natCast]; omega⟩
      by_cases h : j < i
      · exact hall j h
      · obtain rfl : j = i := by omega
        exact hR
  · obtain rfl : i = n := by omega
    rw [hend]
    refine W.ret ?_
    have : (List.range i).all R = true := by
      rw [List.all_eq_true]
      exact fun j hj => hall j (List.mem_range.1 hj)
    rw [this]; rfl
theorem eqPr (x y : Pr) : ∃ b, eqG cfg.P 40 [.str x.Key, .str x.Value] [.str y.Key, .str y.Value] = some b := by
  obtain ⟨b, hb, _⟩ := eqG_sm (P := cfg.P) (t := 40) (xs := [.str x.Key, .str x.Value]) (ys := [.str y.Key, .str y.Value]) (by kernel_rfl) (by kernel_rfl)
  exact ⟨b, hb⟩
theorem eqTime (a b c d : Int) : ∃ r, eqG cfg.P 29 [.int .i64 a, .int .i64 b] [.int .i64 c, .int .i64 d] = some r := by
  obtain ⟨b, hb, _⟩ := eqG_sm (P := cfg.P) (t := 29) (xs := [.int .i64 a, .int .i64 b]) (ys := [.int .i64 c, .int .i64 d]) (by kernel_rfl) (by kernel_rfl)
  exact ⟨b, hb⟩
theorem same06 (k l : List Pr) (hk : k.length ≤ 1000) : ∃ b, M_boulterref06_Same k l = some b := by
  unfold M_boulterref06_Same
  by_cases h : k.length = l.length
  · have e : ((k.length : Int) != (l.length : Int)) = false := by simp [h]
    rw [e, iteB_false]
    have hR : ∀ i : Nat, ∃ b : Bool, i < k.length → M_boulterref06_Same_L0 k l (i : Int) = some (bif b then .inl (IntKind.i64.wrap ((i : Int) + 1)) else .inr (.inr false)) := by
      intro i
      by_cases hi : i < k.length
      · obtain ⟨b, hb⟩ := eqPr k[i] (l[i]'(by omega))
        refine ⟨b, fun _ => ?_⟩
        unfold M_boulterref06_Same_L0
        rw [iteB_dec, if_pos (by omega), ixV_get hi, Option.bind_some, ixV_get (by omega : i < l.length), Option.bind_some, hb, Option.bind_some]
        cases b <;> rfl
      · exact ⟨true, fun h => absurd h hi⟩
    rw [all_loop (n := k.length) (R := fun i => (hR i).choose) hk (fun i hi => (hR i).choose_spec hi) (by unfold M_boulterref06_Same_L0; rw [iteB_dec, if_neg (by omega)])]
    cases (List.range k.length).all fun i => (hR i).choose
    · exact ⟨_, rfl⟩
    · exact ⟨_, rfl⟩
  · have e : ((k.length : Int) != (l.length : Int)) = true := by simp; omega
    rw [e]; exact ⟨_, rfl⟩
theorem same_eq (x y : Mb) (hx : x.Extra.length ≤ 1000) : ∃ r, M_archive_Same x y = some r ∧ M_boulterref07_Same x y = some r := by
  obtain ⟨e, he⟩ := same06 x.Extra y.Extra hx
  obtain ⟨t, ht⟩ := eqTime x.Time.Sec x.Time.Nsec y.Time.Sec y.Time.Nsec
  have he' : M_slices_Equal_boulter_api_Pair_boulter_api_Pair x.Extra y.Extra = some e := he
  unfold M_archive_Same M_boulterref07_Same M_archive_bare
  simp only [Option.bind_some, he', ht, he]
  obtain ⟨q, hq⟩ : ∃ q, ((((((((((x.Name == y.Name) && (x.Link == y.Link)) && (x.Kind == y.Kind)) && (x.Mode == y.Mode)) && (x.Uid == y.Uid)) && (x.Gid == y.Gid)) && (x.Uname == y.Uname)) && (x.Gname == y.Gname)) && (x.Major == y.Major)) && (x.Minor == y.Minor)) = q := ⟨_, rfl⟩
  have hq' : ((((((((((e && (x.Name == y.Name)) && (x.Link == y.Link)) && (x.Kind == y.Kind)) && (x.Mode == y.Mode)) && (x.Uid == y.Uid)) && (x.Gid == y.Gid)) && (x.Uname == y.Uname)) && (x.Gname == y.Gname)) && (x.Major == y.Major)) && (x.Minor == y.Minor)) = (e && q) := by
    rw [← hq]; simp only [Bool.and_assoc]
  rw [hq, hq']
  refine ⟨(e && q && t) && (x.Data == y.Data), ?_, ?_⟩
  · cases e <;> cases q <;> cases t <;> rfl
  · cases e <;> cases q <;> cases t <;> rfl
/-- the pairs of two lists -/
theorem pairs (a b : List Mb) (ha : ∀ m ∈ a, m.Extra.length ≤ 1000) : ∃ R : Nat → Bool, ∀ i (h1 : i < a.length) (h2 : i < b.length), M_archive_Same a[i] b[i] = some (R i) ∧ M_boulterref07_Same a[i] b[i] = some (R i) := by
  have h : ∀ i : Nat, ∃ r, ∀ (h1 : i < a.length) (h2 : i < b.length), M_archive_Same a[i] b[i] = some r ∧ M_boulterref07_Same a[i] b[i] = some r := by
    intro i
    by_cases h1 : i < a.length
    · by_cases h2 : i < b.length
      · obtain ⟨r, h3⟩ := same_eq a[i] b[i] (ha _ (List.getElem_mem h1))
        exact ⟨r, fun _ _ => h3⟩
      · exact ⟨true, fun _ h => absurd h h2⟩
    · exact ⟨true, fun h => absurd h h1⟩
  exact ⟨fun i => (h i).choose, fun i => (h i).choose_spec⟩
theorem equal_eq (a b : List Mb) (ha : ∀ m ∈ a, m.Extra.length ≤ 1000) (hl : a.length ≤ 1000) : ∃ r, M_archive_Equal a b = some r ∧ M_boulterref12_Same a b = some r := by
  obtain ⟨R, hR⟩ := pairs a b ha
  unfold M_archive_Equal M_slices_EqualFunc_boulter_api_Member_boulter_api_Member_boulter_api_Member_boulter_api_Member_sVVF M_boulterref12_Same
  by_cases h : a.length = b.length
  · have e : ((a.length : Int) != (b.length : Int)) = false := by simp [h]
    rw [e, iteB_false, iteB_false]
    rw [all_loop (n := a.length) (R := R) hl (fun i hi => ?_) (by unfold M_slices_EqualFunc_boulter_api_Member_boulter_api_Member_boulter_api_Member_boulter_api_Member_sVVF_L0; rw [iteB_dec, if_neg (by omega)]),
      all_loop (n := a.length) (R := R) hl (fun i hi => ?_) (by unfold M_boulterref12_Same_L0; rw [iteB_dec, if_neg (by omega)])]
    · cases (List.range a.length).all R
      · exact ⟨_, rfl, rfl⟩
      · exact ⟨_, rfl, rfl⟩
    · unfold M_boulterref12_Same_L0
      rw [iteB_dec, if_pos (by omega), ixV_get hi, Option.bind_some, ixV_get (by omega : i < b.length), Option.bind_some, (hR i hi (by omega)).2, Option.bind_some]
      cases R i <;> rfl
    · unfold M_slices_EqualFunc_boulter_api_Member_boulter_api_Member_boulter_api_Member_boulter_api_Member_sVVF_L0
      rw [iteB_dec, if_pos (by omega), ixV_get hi, Option.bind_some, ixV_get (by omega : i < b.length), Option.bind_some, (hR i hi (by omega)).1, Option.bind_some]
      cases R i <;> rfl
  · have e : ((a.length : Int) != (b.length : Int)) = true := by simp; omega
    rw [e]; exact ⟨_, rfl, rfl⟩
/-- the last place of a name among the first ones -/
def lastI (a : List Mb) (p : Str) : Nat → Int
  | 0 => -1
  | n + 1 => match a[n]? with | some m => if m.Name = p then (n : Int) else lastI a p n | none => lastI a p n
theorem lastI_at {a : List Mb} {p : Str} {n : Nat} (h : n < a.length) : lastI a p (n + 1) = if a[n].Name = p then (n : Int) else lastI a p n := by
  rw [lastI, List.getElem?_eq_getElem h]
theorem lastI_ge (a : List Mb) (p : Str) : ∀ n, -1 ≤ lastI a p n
  | 0 => by simp [lastI]
  | n + 1 => by
    have := lastI_ge a p n
    unfold lastI
    split
    · split <;> omega
    · exact this
theorem find12 (a : List Mb) (p : Str) (hl : a.length ≤ 1000) : M_boulterref12_Find a p = some (lastI a p a.length) := by
  refine W.eq ?_
  unfold M_boulterref12_Find
  refine W.bind (W.mono (W.list (l := a) (fun (x : Int) (i : Nat) => (x, (i : Int))) (fun x i => x = lastI a p i) ?_ ?_ (-1) rfl (Q := fun r => r = lastI a p a.length)) fun r hr => W.ret hr)
  · intro x hx
    unfold M_boulterref12_Find_L0
    exact W.iteP (fun h => by first | omega | (simp only at h; omega)) fun _ => W.ret hx
  · intro x i hi hx
    unfold M_boulterref12_Find_L0
    refine W.iteP (fun _ => ?_) fun h => by first | omega | (simp only at h; omega)
    rw [ixV_get hi, Option.bind_some]
    refine W.bind (W.mono (Q := fun r => r = lastI a p (i + 1)) ?_ fun r hr => W.ret ⟨r, by rw [ek64 (by omega)], hr⟩)
    rw [lastI_at hi]
    refine W.ite (fun hb => W.ret ?_) fun hb => W.ret ?_
    · rw [if_pos (by simpa using hb)]
    · rw [if_neg (by simpa using hb)]; exact hx
theorem find_eq (a : List Mb) (p : Str) (hl : a.length ≤ 1000) : M_archive_Find a p = some (if lastI a p a.length ≥ 0 then (lastI a p a.length, true) else (0, false)) := by
  refine W.eq ?_
  unfold M_archive_Find
  rw [w64 (by omega) (by omega)]
  refine W.bind (W.mono (W.loop (fun s => ∃ n : Nat, s = (n : Int) - 1 ∧ n ≤ a.length ∧ lastI a p n = lastI a p a.length) (fun s => (s + 1).toNat) ⟨a.length, rfl, Nat.le_refl _, rfl⟩ ?_ (Q := fun o => o = if lastI a p a.length ≥ 0 then .inr (lastI a p a.length, true) else .inl ())) ?_)
  · rintro _ ⟨n, rfl, hn, he⟩
    unfold M_archive_Find_L0
    refine W.iteP (fun h => ?_) fun h => W.ret ?_
    · obtain ⟨m, rfl⟩ : ∃ m, n = m + 1 := ⟨n - 1, by omega⟩
      have e : ((m + 1 : Nat) : Int) - 1 = (m : Int) := by omega
      rw [e, ixV_get (by omega : m < a.length), Option.bind_some]
      rw [lastI_at (by omega : m < a.length)] at he
      refine W.ite (fun hb => W.ret ?_) fun hb => W.ret ⟨⟨m, ?_, by omega, ?_⟩, ?_⟩
      · rw [if_pos (by simpa using hb)] at he
        simp only
        rw [← he, if_pos (by omega)]
      · rw [w64 (by omega) (by omega)]
      · rw [if_neg (by simpa using hb)] at he
        exact he
      · rw [w64 (by omega) (by omega)]; omega
    · obtain rfl : n = 0 := by omega
      have : lastI a p a.length = -1 := he.symm
      simp only
      rw [this]; rfl
  · intro o ho
    by_cases hz : lastI a p a.length ≥ 0
    · rw [if_pos hz] at ho ⊢
      subst ho
      exact W.ret rfl
    · rw [if_neg hz] at ho ⊢
      subst ho
      exact W.ret rfl
theorem long07 (l : List Pr) : W (M_boulterref07_long l) fun b => b = false → l.length ≤ 12 := by
  unfold M_boulterref07_long
  refine W.iteP (fun h => W.ret fun h => by cases h) fun h => ?_
  have hl : l.length ≤ 12 := by omega
  refine W.bind (W.mono (W.list (l := l) (fun (_ : Unit) (i : Nat) => (i : Int)) (fun _ _ => True) ?_ ?_ () trivial (Q := fun _ => True)) ?_)
  · intro _ _
    unfold M_boulterref07_long_L0
    exact W.iteP (fun h => by first | omega | (simp only at h; omega)) fun _ => W.ret trivial
  · intro _ i hi _
    unfold M_boulterref07_long_L0
    refine W.iteP (fun _ => ?_) fun h => by first | omega | (simp only at h; omega)
    rw [ixV_get hi]
    simp only [Option.bind_some]
    refine W.bind (W.mono (Q := fun _ => True) (W.ite (fun _ => W.ret trivial) fun _ => W.ret trivial) fun b _ => ?_)
    exact W.ite (fun _ => W.ret trivial) fun _ => W.ret ⟨(), ek64 (by omega), trivial⟩
  · intro o _
    cases o with
    | inl u => exact W.ret fun _ => hl
    | inr b => exact W.ret fun _ => hl
theorem long12 (l : List Mb) : W (M_boulterlaw12_long l) fun b => b = false → l.length ≤ 8 ∧ ∀ m ∈ l, m.Extra.length ≤ 12 := by
  unfold M_boulterlaw12_long
  refine W.iteP (fun h => W.ret fun h => by cases h) fun h => ?_
  have hl : l.length ≤ 8 := by omega
  refine W.bind (W.mono (W.list (l := l) (fun (_ : Unit) (i : Nat) => (i : Int)) (fun _ i => ∀ (j : Nat) (h : j < l.length), j < i → l[j].Extra.length ≤ 12) ?_ ?_ () (fun j _ h => by omega) (Q := fun o => match o with | .inl _ => ∀ m ∈ l, m.Extra.length ≤ 12 | .inr b => b = true)) ?_)
  · intro _ hP
    unfold M_boulterlaw12_long_L0
    refine W.iteP (fun h => by first | omega | (simp only at h; omega)) fun _ => W.ret ?_
    intro m hm
    obtain ⟨j, hj, rfl⟩ := List.getElem_of_mem hm
    exact hP j hj hj
  · intro _ i hi hP
    unfold M_boulterlaw12_long_L0
    refine W.iteP (fun _ => ?_) fun h => by first | omega | (simp only at h; omega)
    rw [ixV_get hi, Option.bind_some]
    unfold M_boulterref07_Long
    refine W.bind (W.bind ((long07 l[i].Extra).mono fun b hb => W.ret ?_))
    refine W.ite (fun _ => W.ret rfl) fun h => W.ret ⟨(), ek64 (by omega), fun j hj hji => ?_⟩
    by_cases h2 : j < i
    · exact hP j hj h2
    · obtain rfl : j = i := by omega
      refine hb ?_
      cases b
      · rfl
      · simp at h
  · intro o ho
    cases o with
    | inl u => exact W.ret fun _ => ⟨hl, ho⟩
    | inr b => exact W.ret fun h => by rw [ho] at h; cases h
theorem lawArchiveSame (p0 : List Mb) {k0} (h0 : k0) (p1 : List Mb) {k1} (h1 : k1) (p2 : Str) {k2} (h2 : k2) : M_boulterlaw12_ArchiveSame p0 p1 p2 = some true := by
  have aw : ∀ {Q : Bool → Prop}, Q true → W ((M_boulterlaw12_awake).bind fun x => some x) Q := fun h => W.ret h
  refine W.eq ?_
  unfold M_boulterlaw12_ArchiveSame
  refine W.bind ((long12 p0).mono fun b hb => ?_)
  refine W.bind (W.mono (Q := fun r => r = false → b = false ∧ p1.length ≤ 8) (W.ite (fun _ => W.ret fun h => by cases h) fun hb' => W.bind ((long12 p1).mono fun c hc => W.ret fun h => ⟨hb', (hc h).1⟩)) fun r hr => ?_)
  refine W.ite (fun _ => aw rfl) fun hs => ?_
  have hr' : r = false := by cases r; rfl; simp at hs
  obtain ⟨hb0, hl1⟩ := hr hr'
  obtain ⟨hl0, hE⟩ := hb hb0
  have hE' : ∀ m ∈ p0, m.Extra.length ≤ 1000 := fun m hm => by have := hE m hm; omega
  obtain ⟨R, hR⟩ := pairs p0 p1 hE'
  rw [all_loop (n := min p0.length p1.length) (R := fun _ => true) (by omega) (fun i hi => ?_) (by
    unfold M_boulterlaw12_ArchiveSame_L0
    have e : ((decide (((min p0.length p1.length : Nat) : Int) < (p0.length : Int))) && (decide (((min p0.length p1.length : Nat) : Int) < (p1.length : Int)))) = false := by
      rw [Bool.and_eq_false_iff, decide_eq_false_iff_not, decide_eq_false_iff_not]; omega
    dsimp only
    rw [e]; rfl)]
  · have e : ((List.range (min p0.length p1.length)).all fun _ => true) = true := by simp
    rw [e]
    simp only [cond_true, Option.bind_some]
    rw [find_eq p0 p2 (by omega), find12 p0 p2 (by omega)]
    obtain ⟨q, h3, h4⟩ := equal_eq p0 p1 hE' (by omega)
    have hge := lastI_ge p0 p2 p0.length
    generalize lastI p0 p2 p0.length = z at *
    by_cases hz : z ≥ 0
    · rw [if_pos hz]
      simp only [Option.bind_some, h3, h4]
      have e1 : mx z 0 = z := by unfold mx; split <;> omega
      rw [decide_eq_true hz, e1]
      have e2 : (((q == q) && (true == true)) && (z == z)) = true := by simp
      rw [e2]
      exact W.bind (aw (W.ret rfl))
    · rw [if_neg hz]
      simp only [Option.bind_some, h3, h4]
      have e1 : mx z 0 = 0 := by unfold mx; split <;> omega
      rw [decide_eq_false hz, e1]
      have e2 : (((q == q) && (false == false)) && ((0 : Int) == 0)) = true := by simp
      rw [e2]
      exact W.bind (aw (W.ret rfl))
  · have h5 : i < p0.length := by omega
    have h6 : i < p1.length := by omega
    unfold M_boulterlaw12_ArchiveSame_L0
    have e : ((decide ((i : Int) < (p0.length : Int))) && (decide ((i : Int) < (p1.length : Int)))) = true := by
      rw [Bool.and_eq_true, decide_eq_true_eq, decide_eq_true_eq]; omega
    dsimp only
    rw [e, iteB_true, ixV_get h5, ixV_get h6]
    simp only [Option.bind_some]
    rw [(hR i h5 h6).1, Option.bind_some, (hR i h5 h6).2, Option.bind_some]
    have e2 : (R i == R i) = true := by simp
    rw [e2]; rfl
end Go.Av.L
