/-
  Delta: rows, names and places.
-/
import Derived.Test.YtcmfogjpkkodbaaAvNum
import Derived.Test.YtcmfogjpkkodbaaKAll
namespace Go.Av.L
open Go.Av Go.Lib
set_option linter.unusedVariables false
set_option linter.unusedSimpArgs false

abbrev Str := List UInt8
abbrev Mb := S_api_Member

/-! ### loops -/
def foldI {α σ : Type} (f : σ → Nat → α → σ) : σ → List α → Nat → σ
  | s, [], _ => s
  | s, x :: l, k => foldI f (f s k x) l (k + 1)
theorem foldI_const {α σ : Type} (f : σ → α → σ) : ∀ (s : σ) (l : List α) (k : Nat), foldI (fun s _ x => f s x) s l k = l.foldl f s
  | s, [], _ => rfl
  | s, x :: l, k => foldI_const f (f s x) l (k + 1)
theorem loopL {α σ τ ρ : Type} {step : τ → Option (τ ⊕ ρ)} {l : List α} (enc : σ → Nat → τ) (f : σ → Nat → α → σ) (P : σ → Nat → Prop) (fin : σ → ρ)
    (hend : ∀ s, P s l.length → step (enc s l.length) = some (.inr (fin s)))
    (hstep : ∀ s i (hi : i < l.length), P s i → step (enc s i) = some (.inl (enc (f s i l[i]) (i + 1))) ∧ P (f s i l[i]) (i + 1)) (s : σ) (h0 : P s 0) :
    loop step (enc s 0) = some (fin (foldI f s l 0)) ∧ P (foldI f s l 0) l.length := by
  have key : ∀ (m : List α) (i : Nat) (s : σ), l.drop i = m → i ≤ l.length → P s i → loop step (enc s i) = some (fin (foldI f s m i)) ∧ P (foldI f s m i) l.length := by
    intro m
    induction m with
    | nil =>
      intro i s hd hi hp
      have : i = l.length := by have := congrArg List.length hd; simp at this; omega
      subst this
      exact ⟨loop_done (hend s hp), hp⟩
    | cons x m ih =>
      intro i s hd hi hp
      have hlt : i < l.length := by have := congrArg List.length hd; simp at this; omega
      have hx : l[i] = x ∧ l.drop (i + 1) = m := by
        rw [List.drop_eq_getElem_cons hlt] at hd
        exact ⟨(List.cons.inj hd).1, (List.cons.inj hd).2⟩
      obtain ⟨h1, h2⟩ := hstep s i hlt hp
      rw [hx.1] at h1 h2
      rw [loop_step h1]
      exact ih (i + 1) _ hx.2 (by omega) h2
  exact key l 0 s rfl (Nat.zero_le _) h0
theorem ek63 {k : Nat} (h : k < 9223372036854775807) : IntKind.i64.wrap ((k : Int) + 1) = ((k + 1 : Nat) : Int) := by rw [w64 (by omega) (by omega)]; omega
/-- the first for which something holds -/
theorem loopAny {α ρ : Type} {step : Int → Option (Int ⊕ ρ)} {l : List α} (p : α → Bool) (a b : ρ) (hl : l.length ≤ 9223372036854775807)
    (hend : step (l.length : Int) = some (.inr b)) (hstep : ∀ i (hi : i < l.length), step (i : Int) = bif p l[i] then some (.inr a) else some (.inl (IntKind.i64.wrap ((i : Int) + 1)))) :
    loop step 0 = some (bif l.any p then a else b) := by
  have key : ∀ (m : List α) (i : Nat), l.drop i = m → i ≤ l.length → loop step (i : Int) = some (bif m.any p then a else b) := by
    intro m
    induction m with
    | nil =>
      intro i hd hi
      have : i = l.length := by have := congrArg List.length hd; simp at this; omega
      subst this
      exact loop_done hend
    | cons x m ih =>
      intro i hd hi
      have hlt : i < l.length := by have := congrArg List.length hd; simp at this; omega
      have hx : l[i] = x ∧ l.drop (i + 1) = m := by
        rw [List.drop_eq_getElem_cons hlt] at hd
        exact ⟨(List.cons.inj hd).1, (List.cons.inj hd).2⟩
      have h1 := hstep i hlt
      rw [hx.1] at h1
      rw [List.any_cons]
      cases hp : p x
      · rw [hp] at h1
        rw [loop_step h1, ek63 (by omega), ih (i + 1) hx.2 (by omega)]; rfl
      · rw [hp] at h1
        exact loop_done h1
  exact key l 0 rfl (Nat.zero_le _)
/-- are two rows the same, element by element? -/
theorem loopSame {α : Type} {step : Int → Option (Int ⊕ (Unit ⊕ Bool))} {a b : List α} (same : α → α → Option Bool) (hs : ∀ x ∈ a, ∀ y, ∃ r, same x y = some r ∧ (r = true ↔ x = y)) (hl : a.length = b.length) (hb : a.length < 4611686018427387904)
    (hstep : ∀ x1 : Int, step x1 = iteB (decide (x1 < (a.length : Int))) ((ixV a x1).bind fun x3 => (ixV b x1).bind fun x4 => (same x3 x4).bind fun x5 => iteB (!x5) (some (.inr (.inr false))) (some (.inl (IntKind.i64.wrap (x1 + (1 : Int)))))) (some (.inr (.inl ())))) :
    ∃ r, (loop step 0).bind (fun o1 => (match o1 with | .inl _ => some true | .inr x2 => some x2)) = some r ∧ (r = true ↔ a = b) := by
  have key : ∀ (n i : Nat), i + n = a.length → ∃ r, (loop step (i : Int)).bind (fun o1 => (match o1 with | .inl _ => some true | .inr x2 => some x2)) = some r ∧ (r = true ↔ a.drop i = b.drop i) := by
    intro n
    induction n with
    | zero =>
      intro i hi
      have h1 : step (i : Int) = some (.inr (.inl ())) := by rw [hstep, iteB_dec, if_neg (by omega)]
      refine ⟨true, by rw [loop_done h1]; rfl, ?_⟩
      rw [List.drop_of_length_le (by omega), List.drop_of_length_le (by omega)]; simp
    | succ n ih =>
      intro i hi
      have ha : i < a.length := by omega
      have hb' : i < b.length := by omega
      obtain ⟨r, h1, h2⟩ := hs a[i] (List.getElem_mem ha) b[i]
      rw [List.drop_eq_getElem_cons ha, List.drop_eq_getElem_cons hb', List.cons.injEq]
      have h3 := hstep (i : Int)
      rw [iteB_dec, if_pos (by omega), ixV_get ha, Option.bind_some, ixV_get hb', Option.bind_some, h1, Option.bind_some] at h3
      cases r with
      | false =>
        exact ⟨false, by rw [loop_done h3]; rfl, by simp at h2; simp [h2]⟩
      | true =>
        rw [Bool.not_true, iteB_false, ek64 (by omega)] at h3
        rw [loop_step h3]
        obtain ⟨r, h4, h5⟩ := ih (i + 1) (by omega)
        exact ⟨r, h4, by rw [h5]; simp at h2; simp [h2]⟩
  simpa using key a.length 0 (by omega)

/-! ### what is the same -/
theorem eqG_pair (a b c d : Str) : eqG cfg.P 88 [.str a, .str b] [.str c, .str d] = some (a == c && b == d) := by
  have e : eqG cfg.P 88 [.str a, .str b] [.str c, .str d] = iteB (a == c) (iteB (b == d) (some true) (some false)) (some false) := by kernel_rfl
  rw [e, iteB_an, iteB_an, Bool.and_true]
theorem eqG_stamp (a b c d : Int) : eqG cfg.P 60 [.int .i64 a, .int .i64 b] [.int .i64 c, .int .i64 d] = some (a == c && b == d) := by
  have e : eqG cfg.P 60 [.int .i64 a, .int .i64 b] [.int .i64 c, .int .i64 d] = iteB (a == c) (iteB (b == d) (some true) (some false)) (some false) := by kernel_rfl
  rw [e, iteB_an, iteB_an, Bool.and_true]
theorem pairSame (x y : S_api_Pair) : ∃ r, eqG cfg.P 88 [.str x.Key, .str x.Value] [.str y.Key, .str y.Value] = some r ∧ (r = true ↔ x = y) :=
  ⟨_, eqG_pair _ _ _ _, by cases x; cases y; simp⟩
theorem same06 (a b : List S_api_Pair) (hb : a.length < 4611686018427387904) : ∃ r, M_boulterref06_Same a b = some r ∧ (r = true ↔ a = b) := by
  unfold M_boulterref06_Same
  rw [iteB_bne]
  by_cases h : (a.length : Int) = (b.length : Int)
  · rw [if_pos h]
    exact loopSame (same := fun x y => eqG cfg.P 88 [.str x.Key, .str x.Value] [.str y.Key, .str y.Value]) (fun x _ => pairSame x) (by omega) hb (fun x1 => rfl)
  · rw [if_neg h]
    exact ⟨false, rfl, by simp; intro e; subst e; exact h rfl⟩
theorem same07 (x y : Mb) (hb : x.Extra.length < 4611686018427387904) : ∃ r, M_boulterref07_Same x y = some r ∧ (r = true ↔ x = y) := by
  unfold M_boulterref07_Same
  obtain ⟨r, h1, h2⟩ := same06 x.Extra y.Extra hb
  rw [eqG_stamp, h1]
  simp only [Option.bind_some]
  rw [iteB_an, Option.bind_some, iteB_an, Option.bind_some]
  refine ⟨_, rfl, ?_⟩
  obtain ⟨a1, a2, a3, a4, a5, a6, a7, a8, a9, a10, ⟨t1, t2⟩, a12, a13⟩ := x
  obtain ⟨b1, b2, b3, b4, b5, b6, b7, b8, b9, b10, ⟨u1, u2⟩, b12, b13⟩ := y
  simp only [Bool.and_eq_true, beq_iff_eq, h2, S_api_Member.mk.injEq, S_api_Stamp.mk.injEq]
  constructor
  · rintro ⟨⟨⟨⟨⟨⟨⟨⟨⟨⟨⟨⟨e1, e2⟩, e3⟩, e4⟩, e5⟩, e6⟩, e7⟩, e8⟩, e9⟩, e10⟩, e11, e12⟩, e13⟩, e14⟩
    exact ⟨e1, e2, e3, e4, e5, e6, e7, e8, e9, e10, ⟨e11, e12⟩, e13, e14⟩
  · rintro ⟨e1, e2, e3, e4, e5, e6, e7, e8, e9, e10, ⟨e11, e12⟩, e13, e14⟩
    exact ⟨⟨⟨⟨⟨⟨⟨⟨⟨⟨⟨⟨e1, e2⟩, e3⟩, e4⟩, e5⟩, e6⟩, e7⟩, e8⟩, e9⟩, e10⟩, e11, e12⟩, e13⟩, e14⟩
/-- members that are not too long -/
def Short (m : Mb) : Prop := m.Name.length ≤ 600 ∧ m.Extra.length ≤ 12
theorem same12 (a b : List Mb) (ha : ∀ m ∈ a, m.Extra.length < 4611686018427387904) (hb : a.length < 4611686018427387904) : ∃ r, M_boulterref12_Same_sOO a b = some r ∧ (r = true ↔ a = b) := by
  unfold M_boulterref12_Same_sOO
  rw [iteB_bne]
  by_cases h : (a.length : Int) = (b.length : Int)
  · rw [if_pos h]
    exact loopSame (same := M_boulterref07_Same) (fun x hx y => same07 x y (ha x hx)) (by omega) hb (fun x1 => rfl)
  · rw [if_neg h]
    exact ⟨false, rfl, by simp; intro e; subst e; exact h rfl⟩
/-! ### not too long -/
theorem long07 (p : List S_api_Pair) : ∃ b, M_boulterref07_long p = some b ∧ (b = false → p.length ≤ 12) := by
  unfold M_boulterref07_long
  rw [iteB_dec]
  by_cases h : (p.length : Int) > 12
  · rw [if_pos h]; exact ⟨true, rfl, by simp⟩
  · rw [if_neg h]
    have hl := loopAny (l := p) (step := M_boulterref07_long_L0 p) (fun x => decide ((x.Key.length : Int) > 300) || decide ((x.Value.length : Int) > 300)) (.inr true) (.inl ()) (by omega)
      (by unfold M_boulterref07_long_L0; dsimp only; rw [iteB_dec, if_neg (by omega)])
      (fun i hi => by
        unfold M_boulterref07_long_L0
        dsimp only
        rw [iteB_dec, if_pos (by omega), ixV_get hi, Option.bind_some]
        simp only [Option.bind_some, iteB_or]
        cases (decide ((p[i].Key.length : Int) > 300) || decide ((p[i].Value.length : Int) > 300)) <;> rfl)
    rw [hl]
    generalize p.any _ = b
    cases b
    · exact ⟨false, rfl, fun _ => by omega⟩
    · exact ⟨true, rfl, by simp⟩
theorem Long07 (m : Mb) : ∃ b, M_boulterref07_Long m = some b ∧ (b = false → Short m) := by
  unfold M_boulterref07_Long
  obtain ⟨b, h1, h2⟩ := long07 m.Extra
  rw [h1, Option.bind_some]
  refine ⟨_, rfl, fun h => ?_⟩
  simp only [Bool.or_eq_false_iff, decide_eq_false_iff_not] at h
  obtain ⟨⟨⟨⟨⟨h3, h4⟩, _⟩, _⟩, _⟩, _⟩ := h
  exact ⟨by omega, h2 h3⟩
theorem any_short {l : List Mb} {p : Mb → Bool} (h : ∀ m, p m = false → Short m) (ha : l.any p = false) : ∀ m ∈ l, Short m := fun m hm => h m (by rw [List.any_eq_false] at ha; simpa using ha m hm)
theorem long38 (l : List Mb) : ∃ b, M_boulterlaw38_long l = some b ∧ (b = false → l.length ≤ 10 ∧ ∀ m ∈ l, Short m) := by
  unfold M_boulterlaw38_long
  rw [iteB_dec]
  by_cases h : (l.length : Int) > 10
  · rw [if_pos h]; exact ⟨true, rfl, by simp⟩
  · rw [if_neg h]
    let p : Mb → Bool := fun m => (M_boulterref07_Long m).getD true
    have hp : ∀ m, M_boulterref07_Long m = some (p m) := fun m => by obtain ⟨b, h1, _⟩ := Long07 m; simp only [p, h1]; rfl
    have hs : ∀ m, p m = false → Short m := fun m hm => by
      obtain ⟨b, h1, h2⟩ := Long07 m
      rw [hp m] at h1
      injection h1 with h1
      exact h2 (by rw [← h1]; exact hm)
    have hl := loopAny (l := l) (step := M_boulterlaw38_long_L0 l) p (.inr true) (.inl ()) (by omega)
      (by unfold M_boulterlaw38_long_L0; dsimp only; rw [iteB_dec, if_neg (by omega)])
      (fun i hi => by
        unfold M_boulterlaw38_long_L0
        dsimp only
        rw [iteB_dec, if_pos (by omega), ixV_get hi, Option.bind_some, hp, Option.bind_some]
        cases p l[i] <;> rfl)
    rw [hl]
    cases hb : l.any p
    · exact ⟨false, rfl, fun _ => ⟨by omega, any_short hs hb⟩⟩
    · exact ⟨true, rfl, by simp⟩

/-! ### the last ones -/
def hasN (l : List Mb) (n : Str) : Bool := l.any fun m => m.Name == n
def lastIx : List Mb → Str → Option Nat
  | [], _ => none
  | x :: l, n => match lastIx l n with
    | some j => some (j + 1)
    | none => bif x.Name == n then some 0 else none
/-- the last one of each name -/
def lastL : List Mb → List Mb
  | [] => []
  | x :: l => bif hasN l x.Name then lastL l else x :: lastL l
theorem lastIx_none {l : List Mb} {n : Str} : lastIx l n = none ↔ hasN l n = false := by
  induction l with
  | nil => simp [lastIx, hasN]
  | cons x l ih =>
    unfold lastIx
    simp only [hasN, List.any_cons] at *
    cases h : lastIx l n with
    | some j => simp [h] at ih; simp [ih]
    | none => simp [h] at ih; cases hx : (x.Name == n) <;> simp [hx] ; exact ih
theorem lastIx_some {l : List Mb} {n : Str} {j : Nat} (h : lastIx l n = some j) : ∃ hj : j < l.length, l[j].Name = n ∧ hasN (l.drop (j + 1)) n = false := by
  induction l generalizing j with
  | nil => cases h
  | cons x l ih =>
    unfold lastIx at h
    split at h
    · rename_i k hk
      injection h with h; subst h
      obtain ⟨h1, h2, h3⟩ := ih hk
      exact ⟨by simpa using h1, by simpa using h2, by simpa using h3⟩
    · rename_i hn
      cases hx : (x.Name == n) with
      | false => simp [hx] at h
      | true =>
        simp [hx] at h; subst h
        exact ⟨by simp, by simpa using hx, by simpa using lastIx_none.1 hn⟩
theorem lastIx_at {l : List Mb} {i : Nat} (hi : i < l.length) : lastIx l l[i].Name = some i ↔ hasN (l.drop (i + 1)) l[i].Name = false := by
  constructor
  · intro h; exact (lastIx_some h).2.2
  · intro h
    induction l generalizing i with
    | nil => simp at hi
    | cons x l ih =>
      unfold lastIx
      cases i with
      | zero =>
        simp only [List.getElem_cons_zero, List.drop_succ_cons, List.drop_zero] at h ⊢
        rw [lastIx_none.2 h]; simp
      | succ i =>
        simp only [List.getElem_cons_succ, List.drop_succ_cons] at h ⊢
        rw [ih (by simpa using hi) h]
theorem find_fold (n : Str) : ∀ (l : List Mb) (s : Int) (k : Nat), foldI (fun s i (x : Mb) => bif x.Name == n then (i : Int) else s) s l k = match lastIx l n with | some j => ((k + j : Nat) : Int) | none => s
  | [], s, k => rfl
  | x :: l, s, k => by
    unfold foldI lastIx
    rw [find_fold n l]
    cases lastIx l n with
    | some j => simp only; congr 1; omega
    | none => simp only; cases x.Name == n <;> simp
/-- the place of the last one of a name; -1 -/
def findI (l : List Mb) (n : Str) : Int := match lastIx l n with | some j => (j : Int) | none => -1
theorem findI_neg {l : List Mb} {n : Str} : findI l n < 0 ↔ hasN l n = false := by
  unfold findI
  rw [← lastIx_none]
  cases lastIx l n with
  | none => simp
  | some j => simp
theorem findI_eq {l : List Mb} {n : Str} {i : Nat} : findI l n = (i : Int) ↔ lastIx l n = some i := by
  unfold findI
  cases lastIx l n with
  | none => simp
  | some j => simp; omega
/-- what is kept of the last ones -/
theorem lastFold (l : List Mb) (q : Mb → Bool) (p : Nat → Mb → Bool) (hp : ∀ i (hi : i < l.length), p i l[i] = (!(hasN (l.drop (i + 1)) l[i].Name) && q l[i])) (out : List Mb) :
    foldI (fun out i x => bif p i x then out ++ [x] else out) out l 0 = out ++ (lastL l).filter q := by
  have key : ∀ (m : List Mb) (i : Nat) (out : List Mb), l.drop i = m → foldI (fun out i x => bif p i x then out ++ [x] else out) out m i = out ++ (lastL m).filter q := by
    intro m
    induction m with
    | nil => intro i out _; simp [foldI, lastL]
    | cons x m ih =>
      intro i out hd
      have hlt : i < l.length := by have := congrArg List.length hd; simp at this; omega
      rw [List.drop_eq_getElem_cons hlt] at hd
      obtain ⟨h1, h2⟩ := List.cons.inj hd
      unfold foldI
      rw [ih (i + 1) _ h2]
      have h3 := hp i hlt
      rw [h1, h2] at h3
      rw [h3]
      have e : lastL (x :: m) = bif hasN m x.Name then lastL m else x :: lastL m := rfl
      rw [e]
      cases hasN m x.Name <;> cases hq : q x <;> simp [hq]
  exact key l 0 out rfl
/-! ### places -/
section
variable {K V : Type} [DecidableEq K]
theorem mfind_mput (m : List (K × V)) (k : K) (v : V) (n : K) : mfind (mput m k v) n = if n = k then some v else mfind m n := by
  induction m with
  | nil => simp [mput, mfind]
  | cons p m ih =>
    obtain ⟨k', v'⟩ := p
    unfold mput
    by_cases h : k = k'
    · subst h; simp only [if_true, mfind]; by_cases h2 : n = k <;> simp [h2]
    · rw [if_neg h]; simp only [mfind, ih]
      by_cases h2 : n = k'
      · subst h2; simp [Ne.symm h]
      · simp [h2]
theorem mem_keys {m : List (K × V)} {n : K} : n ∈ m.map Prod.fst ↔ (mfind m n).isSome = true := by
  induction m with
  | nil => simp [mfind]
  | cons p m ih =>
    obtain ⟨k', v'⟩ := p
    simp only [List.map_cons, List.mem_cons, mfind, ih]
    by_cases h : n = k' <;> simp [h]
theorem keys_mput (m : List (K × V)) (k : K) (v : V) : (mput m k v).map Prod.fst = if k ∈ m.map Prod.fst then m.map Prod.fst else m.map Prod.fst ++ [k] := by
  induction m with
  | nil => simp [mput]
  | cons p m ih =>
    obtain ⟨k', v'⟩ := p
    unfold mput
    by_cases h : k = k'
    · subst h; simp
    · rw [if_neg h]; simp only [List.map_cons, ih, List.mem_cons, h, false_or]
      split <;> simp
theorem nodup_mput {m : List (K × V)} (h : (m.map Prod.fst).Nodup) (k : K) (v : V) : ((mput m k v).map Prod.fst).Nodup := by
  rw [keys_mput]
  split
  · exact h
  · rename_i hk
    rw [List.nodup_append]
    exact ⟨h, by simp, fun a ha b hb => by simp at hb; subst hb; rintro rfl; exact hk ha⟩
theorem keys_mdel (m : List (K × V)) (k : K) : (mdel m k).map Prod.fst = (m.map Prod.fst).erase k := by
  induction m with
  | nil => simp [mdel]
  | cons p m ih =>
    obtain ⟨k', v'⟩ := p
    unfold mdel
    by_cases h : k = k'
    · subst h; simp
    · rw [if_neg h]; simp only [List.map_cons, ih]
      rw [List.erase_cons_tail (by simpa using fun e => h e.symm)]
theorem nodup_mdel {m : List (K × V)} (h : (m.map Prod.fst).Nodup) (k : K) : ((mdel m k).map Prod.fst).Nodup := by rw [keys_mdel]; exact h.erase k
theorem mfind_mdel {m : List (K × V)} (h : (m.map Prod.fst).Nodup) (k n : K) : mfind (mdel m k) n = if n = k then none else mfind m n := by
  induction m with
  | nil => simp [mdel, mfind]
  | cons p m ih =>
    obtain ⟨k', v'⟩ := p
    simp only [List.map_cons, List.nodup_cons] at h
    unfold mdel
    by_cases hk : k = k'
    · subst hk; rw [if_pos rfl]
      simp only [mfind]
      by_cases h2 : n = k
      · subst h2
        rw [if_pos rfl]
        cases hm : mfind m n with
        | none => rfl
        | some v => exact absurd (mem_keys.2 (by rw [hm]; rfl)) h.1
      · simp [h2]
    · rw [if_neg hk]; simp only [mfind, ih h.2]
      by_cases h2 : n = k'
      · subst h2; simp [Ne.symm hk]
      · simp [h2]
end
abbrev Pl := List (Str × Int)
def placesL (l : List Mb) : Pl := foldI (fun m i (x : Mb) => mput m x.Name (i : Int)) [] l 0
theorem places38 (l : List Mb) (hl : l.length ≤ 1000) : M_delta_places l = some (placesL l) := by
  unfold M_delta_places
  have h := (loopL (l := l) (step := M_delta_places_L0 l) (enc := fun (s : Pl) i => (s, (i : Int))) (fun m i (x : Mb) => mput m x.Name (i : Int)) (fun _ _ => True) (fun s => s)
    (fun s _ => by unfold M_delta_places_L0; dsimp only; rw [iteB_dec, if_neg (by omega)])
    (fun s i hi _ => by
      refine ⟨?_, trivial⟩
      unfold M_delta_places_L0; dsimp only
      rw [iteB_dec, if_pos (by omega), ixV_get hi, Option.bind_some, ek64 (by omega)]) [] trivial).1
  rw [show (([] : Pl), (0 : Int)) = (([] : Pl), ((0 : Nat) : Int)) from rfl, h]; rfl
theorem places_find (n : Str) : ∀ (l : List Mb) (m : Pl) (k : Nat), mfind (foldI (fun m i (x : Mb) => mput m x.Name (i : Int)) m l k) n = match lastIx l n with | some j => some ((k + j : Nat) : Int) | none => mfind m n
  | [], m, k => rfl
  | x :: l, m, k => by
    unfold foldI lastIx
    rw [places_find n l]
    cases lastIx l n with
    | some j => simp only [Option.some.injEq]; omega
    | none =>
      simp only
      rw [mfind_mput]
      by_cases h : n = x.Name
      · subst h; simp
      · rw [if_neg h]
        have : (x.Name == n) = false := by simpa using fun e => h e.symm
        simp [this]
theorem placesL_find (l : List Mb) (n : Str) : mfind (placesL l) n = (lastIx l n).map fun j : Nat => (j : Int) := by
  unfold placesL
  rw [places_find]
  cases lastIx l n <;> simp [mfind]
theorem placesL_nodup (l : List Mb) : ((placesL l).map Prod.fst).Nodup := by
  have key : ∀ (l : List Mb) (m : Pl) (k : Nat), (m.map Prod.fst).Nodup → ((foldI (fun m i (x : Mb) => mput m x.Name (i : Int)) m l k).map Prod.fst).Nodup := by
    intro l
    induction l with
    | nil => intro m k h; exact h
    | cons x l ih => intro m k h; exact ih _ _ (nodup_mput h _ _)
  exact key l [] 0 (by simp)
/-- what is kept: the last ones whose names are asked for -/
theorem kept38 (l : List Mb) (m : Pl) (q : Mb → Bool) (hl : l.length ≤ 1000) (hE : ∀ x ∈ l, Short x) (hq : ∀ x ∈ l, mfind m x.Name = bif q x then (lastIx l x.Name).map (fun j : Nat => (j : Int)) else none) : M_delta_kept l m = some ((lastL l).filter q) := by
  unfold M_delta_kept
  have h := (loopL (l := l) (step := M_delta_kept_L0 l m) (enc := fun s i => (s, (i : Int))) (fun out i (x : Mb) => bif (fun i (x : Mb) => (mfind m x.Name).isSome && (mfind m x.Name).getD 0 == ((i : Nat) : Int)) i x then out ++ [x] else out) (fun out i => out.length ≤ i) (fun s => s)
    (fun s _ => by unfold M_delta_kept_L0; dsimp only; rw [iteB_dec, if_neg (by omega)])
    (fun s i hi hs => by
      refine ⟨?_, ?_⟩
      · unfold M_delta_kept_L0; dsimp only
        rw [iteB_dec, if_pos (by omega), ixV_get hi, Option.bind_some, ek64 (by omega)]
        have hok : okN 168 (s.length + ([l[i]] : List Mb).length) = true := okN_of (by simp; omega) (by simp; omega)
        have hx := (hE _ (List.getElem_mem hi)).2
        have hok2 : okN 32 l[i].Extra.length = true := okN_of (by omega) (by omega)
        rw [hok, hok2]
        cases (mfind m l[i].Name).isSome && (mfind m l[i].Name).getD 0 == (i : Int) <;> rfl
      · dsimp only
        cases (mfind m l[i].Name).isSome && (mfind m l[i].Name).getD 0 == (i : Int)
        · simp; omega
        · simp; omega) [] (Nat.zero_le _)).1
  rw [show (([] : List Mb), (0 : Int)) = (([] : List Mb), ((0 : Nat) : Int)) from rfl, h, Option.bind_some]
  rw [lastFold l q _ (fun i hi => ?_)]
  · simp
  · rw [hq _ (List.getElem_mem hi)]
    cases hqi : q l[i] with
    | false => simp
    | true =>
      simp only [cond_true, Bool.and_true]
      rw [Bool.eq_iff_iff]
      simp only [Bool.and_eq_true, beq_iff_eq, Bool.not_eq_true', ← lastIx_at hi]
      cases lastIx l l[i].Name with
      | none => simp
      | some j => simp; omega
theorem cmp_neg : ∀ a b : Str, decide (compareBytes a b < 0) = Op.bytesLess a b
  | [], [] => rfl
  | [], _ :: _ => rfl
  | _ :: _, [] => rfl
  | a :: x, b :: y => by
    unfold compareBytes Op.bytesLess
    by_cases h1 : a < b
    · simp [h1]
    · rw [if_neg h1]
      by_cases h2 : b < a
      · rw [if_pos h2]
        have h3 : ¬ a = b := by rintro rfl; exact h1 h2
        simp [h1, h3]
      · rw [if_neg h2]
        have h3 : a = b := UInt8.le_antisymm (UInt8.not_lt.1 h2) (UInt8.not_lt.1 h1)
        subst h3
        rw [cmp_neg x y]
        simp [h1]
theorem bless {a b : Str} : Op.bytesLess a b = true ↔ a < b := by rw [Go.Proofs.bytesLess_eq]; simp
theorem blessN {a b : Str} : Op.bytesLess a b = false ↔ b ≤ a := by rw [Go.Proofs.bytesLess_eq]; simp

/-! ### members -/
def insM : List Mb → Mb → List Mb
  | [], m => [m]
  | x :: l, m => bif Op.bytesLess m.Name x.Name then m :: x :: l else x :: insM l m
def sortM (l : List Mb) : List Mb := l.foldl insM []
abbrev Ris (l : List Mb) : Prop := l.Pairwise fun a b => a.Name ≤ b.Name
theorem insM_perm (m : Mb) : ∀ l, (insM l m).Perm (m :: l)
  | [] => .refl _
  | x :: l => by
    unfold insM
    cases Op.bytesLess m.Name x.Name
    · exact ((insM_perm m l).cons x).trans (.swap m x l)
    · exact .refl _
theorem insM_ris (m : Mb) : ∀ {l}, Ris l → Ris (insM l m)
  | [], _ => by simp [insM, Ris]
  | x :: l, h => by
    unfold insM
    cases hb : Op.bytesLess m.Name x.Name
    · refine List.pairwise_cons.2 ⟨fun z hz => ?_, insM_ris m (List.pairwise_cons.1 h).2⟩
      rcases List.mem_cons.1 ((insM_perm m l).mem_iff.1 hz) with rfl | hz
      · exact blessN.1 hb
      · exact (List.pairwise_cons.1 h).1 z hz
    · have hlt := bless.1 hb
      refine List.pairwise_cons.2 ⟨fun z hz => ?_, h⟩
      rcases List.mem_cons.1 hz with rfl | hz
      · exact List.le_of_lt hlt
      · exact List.le_trans (List.le_of_lt hlt) ((List.pairwise_cons.1 h).1 z hz)
theorem foldM_perm : ∀ (l acc : List Mb), (l.foldl insM acc).Perm (acc ++ l)
  | [], acc => by simp
  | x :: l, acc => (foldM_perm l (insM acc x)).trans (((insM_perm x acc).append_right l).trans (by simpa using List.perm_middle.symm))
theorem foldM_ris : ∀ (l : List Mb) {acc : List Mb}, Ris acc → Ris (l.foldl insM acc)
  | [], acc, h => h
  | x :: l, acc, h => foldM_ris l (insM_ris x h)
theorem sortM_perm (l : List Mb) : (sortM l).Perm l := by have := foldM_perm l []; rwa [List.nil_append] at this
theorem sortM_ris (l : List Mb) : Ris (sortM l) := foldM_ris l (by simp [Ris])
/-- names that are unlike -/
abbrev Uni (l : List Mb) : Prop := (l.map (·.Name)).Nodup
theorem Uni.inj {l : List Mb} (h : Uni l) {x y : Mb} (hx : x ∈ l) (hy : y ∈ l) (e : x.Name = y.Name) : x = y := by
  induction l with
  | nil => cases hx
  | cons z l ih =>
    rw [Uni, List.map_cons, List.nodup_cons] at h
    rcases List.mem_cons.1 hx with hx1 | hx1 <;> rcases List.mem_cons.1 hy with hy1 | hy1
    · rw [hx1, hy1]
    · exact absurd (List.mem_map.2 ⟨y, hy1, by rw [← e, hx1]⟩) h.1
    · exact absurd (List.mem_map.2 ⟨x, hx1, by rw [e, hy1]⟩) h.1
    · exact ih h.2 hx1 hy1
theorem sortM_same {l l' : List Mb} (hp : l.Perm l') (hu : Uni l) : sortM l = sortM l' := by
  refine List.Perm.eq_of_pairwise (le := fun a b : Mb => a.Name ≤ b.Name) (fun a b ha hb h1 h2 => ?_) (sortM_ris l) (sortM_ris l') ((sortM_perm l).trans (hp.trans (sortM_perm l').symm))
  exact hu.inj ((sortM_perm l).mem_iff.1 ha) (hp.mem_iff.2 ((sortM_perm l').mem_iff.1 hb)) (List.le_antisymm h1 h2)
theorem insM_lt {m x : Mb} (h : Op.bytesLess m.Name x.Name = true) : ∀ p : List Mb, insM (p ++ [x]) m = insM p m ++ [x]
  | [] => by simp [insM, h]
  | y :: p => by
    rw [List.cons_append]
    unfold insM
    cases Op.bytesLess m.Name y.Name
    · simp only [cond_false]; rw [insM_lt h p]; rfl
    · rfl
theorem insM_ge {m : Mb} : ∀ p : List Mb, (∀ y ∈ p, Op.bytesLess m.Name y.Name = false) → insM p m = p ++ [m]
  | [], _ => rfl
  | y :: p, h => by
    unfold insM
    rw [h y (by simp), cond_false, insM_ge p fun z hz => h z (by simp [hz])]; rfl
/-! ### names that rise -/
def insS : List Str → Str → List Str
  | [], m => [m]
  | x :: l, m => bif Op.bytesLess m x then m :: x :: l else x :: insS l m
def sortS (l : List Str) : List Str := l.foldl insS []
theorem insS_perm (m : Str) : ∀ l, (insS l m).Perm (m :: l)
  | [] => .refl _
  | x :: l => by
    unfold insS
    cases Op.bytesLess m x
    · exact ((insS_perm m l).cons x).trans (.swap m x l)
    · exact .refl _
theorem insS_ris (m : Str) : ∀ {l : List Str}, l.Pairwise (fun a b => a ≤ b) → (insS l m).Pairwise fun a b => a ≤ b
  | [], _ => by simp [insS]
  | x :: l, h => by
    unfold insS
    cases hb : Op.bytesLess m x
    · refine List.pairwise_cons.2 ⟨fun z hz => ?_, insS_ris m (List.pairwise_cons.1 h).2⟩
      rcases List.mem_cons.1 ((insS_perm m l).mem_iff.1 hz) with rfl | hz
      · exact blessN.1 hb
      · exact (List.pairwise_cons.1 h).1 z hz
    · have hlt := bless.1 hb
      refine List.pairwise_cons.2 ⟨fun z hz => ?_, h⟩
      rcases List.mem_cons.1 hz with rfl | hz
      · exact List.le_of_lt hlt
      · exact List.le_trans (List.le_of_lt hlt) ((List.pairwise_cons.1 h).1 z hz)
theorem foldS_perm : ∀ (l acc : List Str), (l.foldl insS acc).Perm (acc ++ l)
  | [], acc => by simp
  | x :: l, acc => (foldS_perm l (insS acc x)).trans (((insS_perm x acc).append_right l).trans (by simpa using List.perm_middle.symm))
theorem foldS_ris : ∀ (l : List Str) {acc : List Str}, acc.Pairwise (fun a b => a ≤ b) → (l.foldl insS acc).Pairwise fun a b => a ≤ b
  | [], acc, h => h
  | x :: l, acc, h => foldS_ris l (insS_ris x h)
theorem sortS_perm (l : List Str) : (sortS l).Perm l := by have := foldS_perm l []; rwa [List.nil_append] at this
theorem sortS_ris (l : List Str) : (sortS l).Pairwise fun a b => a ≤ b := foldS_ris l (by simp)
/-- a row that rises is the one that is put together -/
theorem sortS_eq {l r : List Str} (hp : l.Perm r) (hr : r.Pairwise fun a b => a ≤ b) : sortS l = r :=
  List.Perm.eq_of_pairwise (le := fun a b : Str => a ≤ b) (fun a b _ _ h1 h2 => List.le_antisymm h1 h2) (sortS_ris l) hr ((sortS_perm l).trans hp)
theorem sortS_same {l r : List Str} (hp : l.Perm r) : sortS l = sortS r := sortS_eq (hp.trans (sortS_perm r).symm) (sortS_ris r)
theorem nodup_len {l : List Str} : ∀ {r : List Str}, l.Nodup → (∀ x ∈ l, x ∈ r) → l.length ≤ r.length := by
  induction l with
  | nil => intro r _ _; exact Nat.zero_le _
  | cons x l ih =>
    intro r hn hs
    obtain ⟨h1, h2⟩ := List.nodup_cons.1 hn
    have hx := hs x (by simp)
    have := ih (r := r.erase x) h2 (fun y hy => (List.mem_erase_of_ne (by rintro rfl; exact h1 hy)).2 (hs y (by simp [hy])))
    rw [List.length_erase_of_mem hx] at this
    have : 0 < r.length := List.length_pos_of_mem hx
    simp; omega
/-! ### the last one of a name -/
def lastOf : List Mb → Str → Option Mb
  | [], _ => none
  | x :: l, n => match lastOf l n with
    | some y => some y
    | none => bif x.Name == n then some x else none
theorem lastOf_ix (l : List Mb) (n : Str) : lastOf l n = (lastIx l n).bind fun j => l[j]? := by
  induction l with
  | nil => rfl
  | cons x l ih =>
    unfold lastOf lastIx
    rw [ih]
    cases h : lastIx l n with
    | some j =>
      obtain ⟨hj, _⟩ := lastIx_some h
      simp [List.getElem?_eq_getElem hj]
    | none => cases x.Name == n <;> simp
theorem lastOf_none {l : List Mb} {n : Str} : lastOf l n = none ↔ hasN l n = false := by
  rw [lastOf_ix, ← lastIx_none]
  cases h : lastIx l n with
  | none => simp
  | some j => obtain ⟨hj, _⟩ := lastIx_some h; simp [List.getElem?_eq_getElem hj]
theorem lastOf_some {l : List Mb} {n : Str} (h : hasN l n = true) : ∃ x, lastOf l n = some x := by
  cases e : lastOf l n with
  | none => rw [lastOf_none] at e; rw [e] at h; cases h
  | some x => exact ⟨x, rfl⟩
theorem hasN_lastL (l : List Mb) (n : Str) : hasN (lastL l) n = hasN l n := by
  induction l with
  | nil => rfl
  | cons x l ih =>
    have e : lastL (x :: l) = bif hasN l x.Name then lastL l else x :: lastL l := rfl
    rw [e]
    cases h : hasN l x.Name with
    | false => simp only [cond_false, hasN, List.any_cons] at *; rw [ih]
    | true =>
      simp only [cond_true]
      rw [ih]
      show hasN l n = (x.Name == n || hasN l n)
      by_cases hx : x.Name = n
      · subst hx; simp [h]
      · have : (x.Name == n) = false := by simpa using hx
        simp [this]
theorem lastOf_lastL (l : List Mb) (n : Str) : lastOf (lastL l) n = lastOf l n := by
  induction l with
  | nil => rfl
  | cons x l ih =>
    have e : lastL (x :: l) = bif hasN l x.Name then lastL l else x :: lastL l := rfl
    rw [e]
    cases h : hasN l x.Name with
    | false => simp only [cond_false, lastOf]; rw [ih]
    | true =>
      simp only [cond_true, lastOf]
      rw [ih]
      cases hl : lastOf l n with
      | some y => rfl
      | none =>
        by_cases hx : x.Name = n
        · subst hx; rw [lastOf_none] at hl; rw [hl] at h; cases h
        · have : (x.Name == n) = false := by simpa using hx
          simp [this]
theorem lastL_uni (l : List Mb) : Uni (lastL l) := by
  induction l with
  | nil => simp [lastL, Uni]
  | cons x l ih =>
    have e : lastL (x :: l) = bif hasN l x.Name then lastL l else x :: lastL l := rfl
    rw [e]
    cases h : hasN l x.Name with
    | true => exact ih
    | false =>
      simp only [cond_false, Uni, List.map_cons, List.nodup_cons]
      refine ⟨fun hm => ?_, ih⟩
      obtain ⟨y, hy, e⟩ := List.mem_map.1 hm
      have : hasN (lastL l) x.Name = true := List.any_eq_true.2 ⟨y, hy, by simpa using e⟩
      rw [hasN_lastL, h] at this
      cases this
theorem mem_lastL {l : List Mb} {x : Mb} : x ∈ lastL l ↔ lastOf l x.Name = some x := by
  induction l with
  | nil => simp [lastL, lastOf]
  | cons y l ih =>
    have e : lastL (y :: l) = bif hasN l y.Name then lastL l else y :: lastL l := rfl
    rw [e]
    unfold lastOf
    cases h : hasN l y.Name with
    | true =>
      simp only [cond_true]
      rw [ih]
      cases hl : lastOf l x.Name with
      | some z => simp
      | none =>
        by_cases hx : y.Name = x.Name
        · rw [hx, lastOf_none.1 hl] at h; cases h
        · have : (y.Name == x.Name) = false := by simpa using hx
          simp [this]
    | false =>
      simp only [cond_false, List.mem_cons]
      rw [ih]
      constructor
      · rintro (rfl | hx)
        · rw [lastOf_none.2 h]; simp
        · rw [hx]
      · intro hx
        cases hl : lastOf l x.Name with
        | some z => rw [hl] at hx; simp only [Option.some.injEq] at hx; subst hx; exact .inr rfl
        | none =>
          rw [hl] at hx
          by_cases hy : y.Name = x.Name
          · simp [hy] at hx; exact .inl hx.symm
          · have : (y.Name == x.Name) = false := by simpa using hy
            simp [this] at hx
theorem lastOf_name {l : List Mb} {n : Str} {x : Mb} (h : lastOf l n = some x) : x.Name = n ∧ x ∈ lastL l := by
  rw [lastOf_ix] at h
  cases hi : lastIx l n with
  | none => rw [hi] at h; cases h
  | some j =>
    rw [hi] at h
    obtain ⟨hj, h2, _⟩ := lastIx_some hi
    simp only [Option.bind_some, List.getElem?_eq_getElem hj, Option.some.injEq] at h
    subst h
    refine ⟨h2, ?_⟩
    rw [mem_lastL, h2, lastOf_ix, hi]
    simp [List.getElem?_eq_getElem hj]
theorem mem_names {l : List Mb} {n : Str} : n ∈ (lastL l).map (·.Name) ↔ hasN l n = true := by
  rw [← hasN_lastL]
  simp [hasN, List.any_eq_true]
theorem lastL_mem {l : List Mb} : ∀ {x : Mb}, x ∈ lastL l → x ∈ l := by
  induction l with
  | nil => intro x h; exact h
  | cons y l ih =>
    intro x h
    have e : lastL (y :: l) = bif hasN l y.Name then lastL l else y :: lastL l := rfl
    rw [e] at h
    cases hb : hasN l y.Name with
    | true => rw [hb] at h; exact List.mem_cons_of_mem _ (ih h)
    | false =>
      rw [hb] at h
      rcases List.mem_cons.1 h with rfl | h
      · simp
      · exact List.mem_cons_of_mem _ (ih h)
theorem lastL_len (l : List Mb) : (lastL l).length ≤ l.length := by
  induction l with
  | nil => exact Nat.le_refl _
  | cons y l ih =>
    have e : lastL (y :: l) = bif hasN l y.Name then lastL l else y :: lastL l := rfl
    rw [e]
    cases hasN l y.Name <;> simp <;> omega

/-! ### the program's difference -/
open Classical in
noncomputable def sameB (x y : Mb) : Bool := decide (x = y)
theorem sameB_iff {x y : Mb} : sameB x y = true ↔ x = y := by simp [sameB]
theorem ref07_same (x y : Mb) (h : Short x) : M_boulterref07_Same x y = some (sameB x y) := by
  obtain ⟨r, h1, h2⟩ := same07 x y (by have := h.2; omega)
  rw [h1]; congr 1; rw [Bool.eq_iff_iff, h2, sameB_iff]
/-- is a name another one's in both? -/
noncomputable def diffN (a b : List Mb) (n : Str) : Bool :=
  match lastOf a n, lastOf b n with
  | some x, some y => !(sameB x y)
  | _, _ => false
theorem diffN_symm (a b : List Mb) (n : Str) : diffN a b n = diffN b a n := by
  unfold diffN
  cases lastOf a n with
  | none => cases lastOf b n <;> rfl
  | some x =>
    cases lastOf b n with
    | none => rfl
    | some y =>
      simp only
      congr 1
      rw [Bool.eq_iff_iff, sameB_iff, sameB_iff]
      exact eq_comm
def KB (b : List Mb) : List Str := sortT ((placesL b).map Prod.fst)
theorem mem_places {l : List Mb} {n : Str} : n ∈ (placesL l).map Prod.fst ↔ hasN l n = true := by
  rw [mem_keys, placesL_find]
  cases h : lastIx l n with
  | none => rw [lastIx_none] at h; simp [h]
  | some j =>
    have : hasN l n ≠ false := fun e => by rw [lastIx_none.2 e] at h; cases h
    simpa using this
theorem KB_nodup (b : List Mb) : (KB b).Nodup := (sortT_perm _).nodup_iff.2 (placesL_nodup b)
theorem mem_KB {b : List Mb} {n : Str} : n ∈ KB b ↔ hasN b n = true := ((sortT_perm _).mem_iff).trans mem_places
theorem KB_perm (b : List Mb) : (KB b).Perm ((lastL b).map (·.Name)) := (List.perm_ext_iff_of_nodup (KB_nodup b) (lastL_uni b)).2 fun n => mem_KB.trans mem_names.symm
theorem KB_len {b : List Mb} : (KB b).length ≤ b.length := by rw [(KB_perm b).length_eq, List.length_map]; exact lastL_len b
theorem keys_ok {l : List Mb} {m : Pl} (hs : ∀ x ∈ l, Short x) (hn : (m.map Prod.fst).Nodup) (hsub : ∀ n ∈ m.map Prod.fst, hasN l n = true) (hl : l.length ≤ 1000) : keysOk (m.map Prod.fst) = true := by
  have hle : (m.map Prod.fst).length ≤ l.length := by
    have : (m.map Prod.fst).length ≤ (KB l).length := nodup_len hn fun n h => mem_KB.2 (hsub n h)
    exact Nat.le_trans this KB_len
  simp only [keysOk, Bool.and_eq_true, decide_eq_true_eq, List.all_eq_true]
  refine ⟨by omega, fun n h => ?_⟩
  obtain ⟨x, hx, e⟩ := List.any_eq_true.1 (hsub n h)
  have := (hs x hx).1
  have e : x.Name = n := by simpa using e
  rw [← e]; omega
/-- names of one that the other one doesn't have; names that are another one's -/
noncomputable def addS (a b : List Mb) : List Str := (KB b).filter fun n => !hasN a n
noncomputable def chgS (a b : List Mb) : List Str := (KB b).filter fun n => hasN a n && diffN a b n
theorem chgS_symm (a b : List Mb) : chgS a b = chgS b a := by
  refine List.Perm.eq_of_pairwise (le := fun x y : Str => x ≤ y) (fun x y _ _ h1 h2 => List.le_antisymm h1 h2) (List.Pairwise.sublist List.filter_sublist (sortT_sorted _)) (List.Pairwise.sublist List.filter_sublist (sortT_sorted _)) ?_
  refine (List.perm_ext_iff_of_nodup (List.Nodup.sublist List.filter_sublist (KB_nodup _)) (List.Nodup.sublist List.filter_sublist (KB_nodup _))).2 fun n => ?_
  rw [List.mem_filter, List.mem_filter, mem_KB, mem_KB, diffN_symm a b]
  simp only [Bool.and_eq_true]
  exact ⟨fun ⟨h1, h2, h3⟩ => ⟨h2, h1, h3⟩, fun ⟨h1, h2, h3⟩ => ⟨h2, h1, h3⟩⟩
/-- a part of the names, rising -/
theorem KB_part (b : List Mb) (p : Str → Bool) : (KB b).filter p = sortS (((lastL b).filter fun y => p y.Name).map (·.Name)) := by
  symm
  refine sortS_eq ?_ (List.Pairwise.sublist List.filter_sublist (sortT_sorted _))
  rw [show (fun y : Mb => p y.Name) = p ∘ (·.Name) from rfl, ← List.filter_map]
  exact ((KB_perm b).filter p).symm

/-! ### the document's difference -/
theorem findLast {l : List Mb} {n : Str} (h : hasN l n = true) : ∃ (k : Nat) (hk : k < (lastL l).length), findI (lastL l) n = (k : Int) ∧ lastOf l n = some (lastL l)[k] := by
  cases hi : lastIx (lastL l) n with
  | none => rw [lastIx_none, hasN_lastL, h] at hi; cases hi
  | some k =>
    obtain ⟨hk, _⟩ := lastIx_some hi
    refine ⟨k, hk, findI_eq.2 hi, ?_⟩
    rw [← lastOf_lastL, lastOf_ix, hi]
    simp [List.getElem?_eq_getElem hk]
theorem uni_nodup {l : List Mb} (h : Uni l) : l.Nodup := by
  rw [Uni, List.Nodup, List.pairwise_map] at h
  exact h.imp fun hne e => hne (by rw [e])
end Go.Av.L
