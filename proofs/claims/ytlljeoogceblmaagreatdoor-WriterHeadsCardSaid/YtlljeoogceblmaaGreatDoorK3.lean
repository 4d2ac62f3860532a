/-
 A part.
-/
import Derived.Test.YtlljeoogceblmaaGreatDoorKCfg
import Derived.Test.YtlljeoogceblmaaGreatDoorK0
import Derived.Test.YtlljeoogceblmaaGreatDoorK1
import Derived.Test.YtlljeoogceblmaaGreatDoorK2
namespace Go.Av.L
open Go.Av Go.Lib
open IntKind (i64 i8)
set_option maxRecDepth 10000
set_option linter.unusedVariables false
set_option linter.unusedSimpArgs false
variable {g : Gd} {h : AD} {F : List Ck} {av : List AB}
noncomputable section
def GM (p0 : List UInt8) (s : Int × Int × Int) : Option ((Int × Int × Int) ⊕ ((Int × Int))) :=
 match s with
 | (x1, x2, x3) => Aa (decide (x3 < (p0.length : Int))) ((MZ p0 x3).bind fun x6 => (Aa ((decide (x3 ≥ 148)) && (decide (x3 < 156))) (some (32 : Int)) (some x6) : Option ((Int))).bind fun x7 => some (.inl (i64.wrap (x1 + (i64.wrap x7)), i64.wrap (x2 + (i64.wrap (i8.wrap x7))), i64.wrap (x3 + 1)))) (some (.inr (x1, x2)))
def G9 (p0 : List UInt8) : Option (WL) :=
 (loop (GM p0) ((0 : Int), (0 : Int), (0 : Int))).bind fun (x4, x5) => some (⟨x4, x5⟩ : WL)
theorem Qp {p0 q0} (M : G9 p0 = some q0) (A : HH g h [] F) (hc : A9 (cfg.still 137) av = [.str p0] := by kernel_rfl) : ∃ v Q, BB cfg g h 137 av v Q ∧ v = .agg [Ai q0.w0, Ai q0.w1] ∧ HH g Q [] F := by
 refine Dj 35 [.cell 2 194] hc ?_
 clear hc
 unfold G9 at M
 refine bg 35 [(0, .str p0)] fun D H => ?_
 refine AF 1 ?_
 obtain ⟨h1, e1, A⟩ := A.pu (.cells none 2 [Ai 0, Ai 0])
 refine BF 2 (.ptr (some (h.size, 0))) e1 H fun D t H => ?_
 refine CT 1 id ?_
 obtain ⟨h2, e2, A⟩ := A.pu (.cells none 2 [Ai 0, Ai 0])
 refine BF 3 (.ptr (some (h1.size, 0))) e2 H fun D t H => ?_
 refine BK id (AN (AF 3 (AL 3 [(7, Ai (p0.length : Int)), (8, Ai 0)] H fun D H => Ae (id := 0) (by kernel_rfl) ?_)))
 obtain ⟨o1, O, M⟩ := bind_some M
 refine Ao (Q' := fun e N Q => (∃ x4 x5, e = .exit 0 ∧ (x4, x5) = o1 ∧ Has N 35 [(2, .ptr (some (h.size, 0))), (3, .ptr (some (h1.size, 0)))] ∧ HH g Q [.obj h1.size (.cells none 2 [Ai x4, Ai x5]), .obj h.size (.cells none 2 [Ai 0, Ai 0])] F) ∨ False) ?_ ?_
 ·refine Bc (by kernel_rfl) (fun (s : Int × Int × Int) N Q => ∃ x1 x2 x3, (x1, x2, x3) = s ∧ Has N 35 [(0, .str p0), (2, .ptr (some (h.size, 0))), (3, .ptr (some (h1.size, 0))), (7, Ai (p0.length : Int)), (8, Ai x3)] ∧ HH g Q [.obj h1.size (.cells none 2 [Ai x1, Ai x2]), .obj h.size (.cells none 2 [Ai 0, Ai 0])] F) O ⟨_, _, _, rfl, H.ls, A⟩ ?_
  clear O M H A
  intro s q D h3 hI M
  obtain ⟨x1, x2, x3, rfl, H, A⟩ := hI
  unfold GM at M
  refine AF 1 (AL 1 [(9, .bool (decide (x3 < (p0.length : Int))))] H fun D H => AN (AX 9 H M (fun B M H => ?_) fun B M H => ?_))
  ·refine Bl id (AN (Ae (id := 1) (by kernel_rfl) ?_))
   refine AF 2 (Be 2 [(4, Ai x3)] 4 H fun D H => ?_)
   obtain ⟨x6, X, M⟩ := bind_some M
   refine Ax 2 [] 13 (Ab x6) h3 H (fun D => .of (FK (by kernel_rfl) X)) fun D t H => ?_
   refine AL 1 [(5, Ab x6)] H fun D H => AN ?_
   obtain ⟨o2, O, M⟩ := bind_some M
   refine Ao (Q' := fun e N Q => (∃ x7, e = .normal ∧ x7 = o2 ∧ Has N 35 [(0, .str p0), (2, .ptr (some (h.size, 0))), (3, .ptr (some (h1.size, 0))), (5, Ab x7), (7, Ai (p0.length : Int)), (8, Ai x3)] ∧ HH g Q [.obj h1.size (.cells none 2 [Ai x1, Ai x2]), .obj h.size (.cells none 2 [Ai 0, Ai 0])] F) ∨ False) ?_ ?_
   ·replace M := O
    clear O
    refine AF 6 (AG 3 [(16, .bool (decide (x3 ≥ 148)))] H fun D H => Al 3 (fun N Q => h3 = Q ∧ Has N 35 [(0, .str p0), (2, .ptr (some (h.size, 0))), (3, .ptr (some (h1.size, 0))), (5, Ab x6), (7, Ai (p0.length : Int)), (8, Ai x3), (19, .bool ((decide (x3 ≥ 148)) && (decide (x3 < 156))))]) ?_ ?_)
    ·cases B : (decide (x3 ≥ 148) : Bool) with
     | true =>
      replace H := H.kn 16 B
      exact AG 3 [(19, .bool (decide (x3 < 156)))] H fun D H => Ac H B
     | false =>
      replace H := H.kn 16 B
      exact AG 3 [(19, .bool false)] H fun D H => Ac H B
    intro t D Q hK
    obtain ⟨e, H⟩ := hK
    subst e
    refine BK id (AX 19 H M (fun B M H => ?_) fun B M H => ?_)
    ·refine BO 1 (A5 1 [(0, .str p0), (2, .ptr (some (h.size, 0))), (3, .ptr (some (h1.size, 0))), (5, Ab 32), (7, Ai (p0.length : Int)), (8, Ai x3)] H fun D H => at_nil ?_)
     exact .inl ⟨_, rfl, Ad M, H.ls, A⟩
    exact F9 (.inl ⟨_, rfl, Ad M, H.ls, A⟩)
   clear O
   clear A
   intro e D h4 hQ
   rcases hQ with ⟨x7, rfl, rfl, H, A⟩ | hF
   ·show AW _ _ _ _ _ _ _
    refine AF 7 (AV 1 [] 21 0 0 A H fun D t H => ?_)
    obtain ⟨h5, X, A⟩ := A.s0 0 [Ai (i64.wrap (x1 + (i64.wrap x7)))] [_, _]
    refine CO 4 [] X H fun D t H => ?_
    refine FY 8 id (AV 1 [] 27 0 1 A H fun D t H => ?_)
    obtain ⟨h6, X, A⟩ := A.s0 1 [Ai (i64.wrap (x2 + (i64.wrap (i8.wrap x7))))] [_, _]
    refine CO 5 [] X H fun D t H => ?_
    refine FY 2 id (A5 2 [(0, .str p0), (2, .ptr (some (h.size, 0))), (3, .ptr (some (h1.size, 0))), (7, Ai (p0.length : Int)), (8, Ai (i64.wrap (x3 + 1)))] H fun D H => at_nil ?_)
    exact nx M ⟨_, _, _, rfl, H.ls, A⟩
   exact hF.elim
  refine Bb (i := 0) (by kernel_rfl) ?_
  exact nr M fun e => .inl ⟨_, _, rfl, e, H.ls, A⟩
 clear O
 clear A
 intro e D h7 hQ
 rcases hQ with ⟨x4, x5, rfl, rfl, H, A⟩ | hF
 ·show AW _ _ _ _ _ _ _
  refine AF 2 (AZ 34 _ _ H (fun D => .of (BD (by kernel_rfl) (A.ET 0 rfl (o := 0) (n := 2) ⟨Nat.le_of_ble_eq_true rfl, rfl⟩))) fun D t H => ?_)
  obtain ⟨h8, X, A⟩ := A.s1 0 [Ai x4, Ai x5] [_, _]
  refine DG X H fun D t H => ?_
  refine BK id (AQ ?_)
  obtain rfl := Ad M
  refine ⟨.inl rfl, .agg [Ai x4, Ai x5], L1 (.cell (rT H) (C7 (by kernel_rfl) (by kernel_rfl) (A.la 1 0 2)) .nil), ?_⟩
  replace A := A.d0
  exact ⟨rfl, A⟩
 exact hF.elim
def E7 (p0 : List UInt8) : Option ((List UInt8) × Int) :=
 Aa ((p0.length : Int) != 512) (some (([] : UV), (1 : Int))) ((G9 p0).bind fun x1 => (Hj ([x1.w0, x1.w1] : List Int) (0 : Int)).bind fun x2 => (CU x2 (7 : Int)).bind fun (x3, x4) => (D7 p0 none (some (148 : Int))).bind fun x5 => BS (decide (x5.length + x3.length ≤ 9223372036854775807)) <| BS (decide ((x5 ++ x3).length + ([32] : UV).length ≤ 9223372036854775807)) <| (D7 p0 (some (156 : Int)) none).bind fun x6 => BS (decide (((x5 ++ x3) ++ ([32] : UV)).length + x6.length ≤ 9223372036854775807)) <| some (((x5 ++ x3) ++ ([32] : UV)) ++ x6, (0 : Int)))
theorem Qn {p0 q0 q1} (M : E7 p0 = some (q0, q1)) (A : HH g h [] F) (hc : A9 (cfg.still 75) av = [.str p0] := by kernel_rfl) : ∃ v Q, BB cfg g h 75 av v Q ∧ v = .tuple [.str q0, Ai q1] ∧ HH g Q [] F := by
 refine Dj 24 [.tmp 2, .tmp 3] hc ?_
 clear hc
 unfold E7 at M
 refine bg 24 [(0, .str p0)] fun D H => ?_
 refine AF 2 (AL 2 [] H fun D H => AN (AF 3 (AL 3 [(8, .bool ((p0.length : Int) != 512))] H fun D H => AX 8 H M (fun B M H => ?_) fun B M H => ?_)))
 ·refine AF 2 (AL 2 [(2, .str ([] : UV)), (3, Ai 1)] H fun D H => AQ ?_)
  obtain ⟨rfl, rfl⟩ := Bn M
  exact ⟨.inl rfl, _, rH H, rfl, A⟩
 refine Bs 9 id ?_
 obtain ⟨x1, X, M⟩ := bind_some M
 obtain ⟨v1, h1, R, rfl, E⟩ := Qp (av := [.str p0]) X (A.cut 0)
 replace A := A.De E
 refine Aq 1 [] 11 R H fun D t H => ?_
 obtain ⟨x2, hq1, M⟩ := bind_some M
 refine AZ 12 (Ai x2) h1 H (fun D => .of (Yh (fun w : Int => Ai w) [x1.w0, x1.w1] (by kernel_rfl) rfl rfl hq1)) fun D t H => ?_
 obtain ⟨⟨x3, x4⟩, X, M⟩ := bind_some M
 obtain ⟨v1, h2, R, rfl, E⟩ := IA (av := [Ai x2, Ai 7]) X (A.cut 0)
 replace A := A.De E
 refine A0 13 R H fun D t H => ?_
 refine AL 5 [(4, .str x3)] H fun D H => AN (HB 4 10 ?_)
 obtain ⟨x5, X, M⟩ := bind_some M
 refine Ax 1 [] 17 (.str x5) h2 H (fun D => .of (Cs (k := .i64) (k' := .i64) (lo := none) (hi := (some (148 : Int))) (by kernel_rfl) X)) fun D t H => ?_
 refine AG 1 [(18, .str x3)] H fun D H => ?_
 obtain ⟨B, M⟩ := AO M
 refine AZ 19 (.str (x5 ++ x3)) h2 H (fun D => .of (B1 (by kernel_rfl) B)) fun D t H => ?_
 obtain ⟨B, M⟩ := AO M
 refine AZ 20 (.str ((x5 ++ x3) ++ ([32] : UV))) h2 H (fun D => .of (B1 (by kernel_rfl) B)) fun D t H => ?_
 obtain ⟨x6, X, M⟩ := bind_some M
 refine Ax 1 [] 22 (.str x6) h2 H (fun D => .of (Cs (k := .i64) (k' := .i64) (lo := (some (156 : Int))) (hi := none) (by kernel_rfl) X)) fun D t H => ?_
 obtain ⟨B, M⟩ := AO M
 refine AZ 23 (.str (((x5 ++ x3) ++ ([32] : UV)) ++ x6)) h2 H (fun D => .of (B1 (by kernel_rfl) B)) fun D t H => ?_
 refine AL 2 [(2, .str (((x5 ++ x3) ++ ([32] : UV)) ++ x6)), (3, Ai 0)] H fun D H => AQ ?_
 obtain ⟨rfl, rfl⟩ := Bn M
 exact ⟨.inl rfl, _, rH H, rfl, A⟩
def CK (pp : Int × (List UInt8)) (s : (List UInt8)) : Option (((List UInt8)) ⊕ (Empty)) :=
 match s with
 | z1 => (Da).bind fun x4 => (Hj ([x4.w0, x4.w1, x4.w2, x4.w3, x4.w4, x4.w5, x4.w6, x4.w7, x4.w8, x4.w9, x4.U5, x4.U9] : List Ak) pp.1).bind fun x5 => (U7 z1 x5.from_).bind fun o2 => some (.inl (putAt z1 o2 pp.2))
def DW (pp : Int × Int) (s : (List UInt8)) : Option (((List UInt8)) ⊕ (Empty)) :=
 match s with
 | z3 => (Da).bind fun x7 => (Hj ([x7.w0, x7.w1, x7.w2, x7.w3, x7.w4, x7.w5, x7.w6, x7.w7, x7.w8, x7.w9, x7.U5, x7.U9] : List Ak) pp.1).bind fun x8 => (CU pp.2 x8.D2).bind fun (x9, x10) => (Da).bind fun x11 => (Hj ([x11.w0, x11.w1, x11.w2, x11.w3, x11.w4, x11.w5, x11.w6, x11.w7, x11.w8, x11.w9, x11.U5, x11.U9] : List Ak) pp.1).bind fun x12 => (U7 z3 x12.from_).bind fun o4 => some (.inl (putAt z3 o4 x9))
theorem Kv {z s : List UInt8} {o : Nat} (h : o + s.length ≤ z.length) (n : Nat) : (putAt z o s)[n]? = if o ≤ n ∧ n < o + s.length then s[n - o]? else z[n]? := by
 unfold putAt
 rw [List.take_of_length_le (l := s) (by omega)]
 have ht : (z.take o).length = o := by rw [List.length_take]; omega
 by_cases h1 : n < o
 ·rw [List.getElem?_append_left (by omega), List.getElem?_take_of_lt h1, if_neg (by omega)]
 ·rw [List.getElem?_append_right (by omega), ht]
  by_cases h2 : n < o + s.length
  ·rw [List.getElem?_append_left (by omega), if_pos (by omega)]
  ·rw [List.getElem?_append_right (by omega), List.getElem?_drop, if_neg (by omega)]
   congr 1
   omega
theorem SM {z s t : List UInt8} {i j : Nat} (h1 : i + s.length ≤ z.length) (h2 : j + t.length ≤ z.length) (hd : i + s.length ≤ j ∨ j + t.length ≤ i) : putAt (putAt z i s) j t = putAt (putAt z j t) i s := by
 have l1 := CY (xs := z) (s := s) (o := i) (by omega)
 have l2 := CY (xs := z) (s := t) (o := j) (by omega)
 refine List.ext_getElem? fun n => ?_
 rw [Kv (by omega), Kv (by omega), Kv (by omega), Kv (by omega)]
 by_cases a : i ≤ n ∧ n < i + s.length
 ·have c : ¬ (j ≤ n ∧ n < j + t.length) := by omega
  simp only [if_pos a, if_neg c]
 ·by_cases c : j ≤ n ∧ n < j + t.length
  ·simp only [if_neg a, if_pos c]
  ·simp only [if_neg a, if_neg c]
theorem Rf {κ : Type} {step : κ → List UInt8 → Option (List UInt8 ⊕ Empty)} {l : List κ} (F : κ → Nat) (T : κ → List UInt8) (hs : ∀ a ∈ l, ∀ z : List UInt8, z.length = 512 → step a z = some (.inl (putAt z (F a) (T a))))
  (B : ∀ a ∈ l, F a + (T a).length ≤ 512) (hd : ∀ a ∈ l, ∀ b ∈ l, a = b ∨ F a + (T a).length ≤ F b ∨ F b + (T b).length ≤ F a) : ∀ l', l'.Perm l → ∀ z : List UInt8, z.length = 512 → Bg step l' z = Bg step l z := by
 refine Lo (fun z : List UInt8 => z.length = 512) (fun a ha z z' hz e => ?_) fun a ha b hb' z hz => ?_
 ·rw [hs a ha z hz] at e
  have := Sum.inl.inj (Option.some.inj e)
  rw [← this, CY (by have := B a ha; omega)]
  exact hz
 ·have n1 : (putAt z (F a) (T a)).length = 512 := by rw [CY (by have := B a ha; omega)]; exact hz
  have n2 : (putAt z (F b) (T b)).length = 512 := by rw [CY (by have := B b hb'; omega)]; exact hz
  unfold Sn
  rw [hs a ha z hz, hs b hb' z hz]
  dsimp only
  rw [hs b hb' _ n1, hs a ha _ n2]
  rcases hd a ha b hb' with rfl | h
  ·rfl
  ·rw [SM (by have := B a ha; omega) (by have := B b hb'; omega) h]
def U6 (k : Int) : Nat := if k = 0 then 0 else if k = 11 then 345 else if k = 6 then 157 else if k = 7 then 265 else 297
theorem PS {z : List UInt8} (hz : z.length = 512) {o : Nat} (O : o ≤ 512) : U7 z (o : Int) = some o := by
 unfold U7
 rw [if_pos ⟨by omega, by omega⟩, Int.toNat_natCast]
theorem E4 {a : Int × List UInt8} (h : a.1 = 0 ∨ a.1 = 11 ∨ a.1 = 6 ∨ a.1 = 7 ∨ a.1 = 8) {z : List UInt8} (hz : z.length = 512) : CK a z = some (.inl (putAt z (U6 a.1) a.2)) := by
 obtain ⟨k, s⟩ := a
 dsimp only at h
 have g : ∀ o : Nat, o ≤ 512 → (U7 z (o : Int)).bind (fun o2 => some (.inl (putAt z o2 s))) = some (.inl (putAt z o s) : List UInt8 ⊕ Empty) := fun o O => by rw [PS hz O]; rfl
 rcases h with rfl | rfl | rfl | rfl | rfl
 ·exact g 0 (by omega)
 ·exact g 345 (by omega)
 ·exact g 157 (by omega)
 ·exact g 265 (by omega)
 ·exact g 297 (by omega)
theorem zero_eq (s : List UInt8) : BX s 0 = some (idxOf s 0) := by
 unfold BX Cm G3
 rfl
def DZ (s : List UInt8) : Bool := decide (0 ≤ idxOf s 0)
theorem OO (p0 : AK) : loop (Cj p0) 0 = some (if DZ p0.Name || (DZ p0.Az || (DZ p0.Ah || DZ p0.Aj)) then .inr 2 else .inl ()) := by
 have st : ∀ (k : Nat) (s : List UInt8), [p0.Name, p0.Az, p0.Ah, p0.Aj][k]? = some s → Cj p0 (k : Int) = some (if DZ s then .inr (.inr 2) else .inl ((k + 1 : Nat) : Int)) := by
  intro k s hs
  have hk : k < 4 := by have := (List.getElem?_eq_some_iff.1 hs).1; simpa using this
  rw [Cj, decide_eq_true (by simp; omega), AU, Qa hs, Option.bind_some, zero_eq, Option.bind_some, Ec, Fk (by omega) (by omega)]
  unfold DZ
  by_cases h : 0 ≤ idxOf s 0
  ·rw [if_pos h, decide_eq_true h, if_pos rfl]
  ·rw [if_neg h, decide_eq_false h, if_neg (by simp)]
   rfl
 have en : Cj p0 ((4 : Nat) : Int) = some (.inr (.inl ())) := by rw [Cj]; rfl
 have s0 := st 0 _ rfl
 have s1 := st 1 _ rfl
 have s2 := st 2 _ rfl
 have s3 := st 3 _ rfl
 show loop (Cj p0) ((0 : Nat) : Int) = _
 cases h0 : DZ p0.Name with
 | true => rw [h0] at s0; rw [Cu (by rw [s0]; rfl)]; rfl
 | false =>
  rw [h0] at s0
  rw [CR (s' := ((0 + 1 : Nat) : Int)) (by rw [s0]; rfl)]
  cases h1 : DZ p0.Az with
  | true => rw [h1] at s1; rw [Cu (r := .inr 2) (by rw [s1]; rfl)]; rfl
  | false =>
   rw [h1] at s1
   rw [CR (s' := ((1 + 1 : Nat) : Int)) (by rw [s1]; rfl)]
   cases h2 : DZ p0.Ah with
   | true => rw [h2] at s2; rw [Cu (r := .inr 2) (by rw [s2]; rfl)]; rfl
   | false =>
    rw [h2] at s2
    rw [CR (s' := ((2 + 1 : Nat) : Int)) (by rw [s2]; rfl)]
    cases h3 : DZ p0.Aj with
    | true => rw [h3] at s3; rw [Cu (r := .inr 2) (by rw [s3]; rfl)]; rfl
    | false =>
     rw [h3] at s3
     rw [CR (s' := ((3 + 1 : Nat) : Int)) (by rw [s3]; rfl), Cu en]
     rfl
theorem N1 {p0 : AK} {l : List (Int × List UInt8)} {b : Bool} {x1 : Int} (h1 : BG p0 = some x1) (h2 : (x1 != (0 : Int)) = false) (X : Bd p0 = some (l, b)) : b = true ∧ ∀ a ∈ l, (a.2.length : Int) ≤ SO a.1 := by
 have h0 : x1 = 0 := by simpa using h2
 subst h0
 unfold BG at h1
 obtain ⟨o1, O, h1⟩ := bind_some h1
 cases o1 with
 | inr x2 =>
  exfalso
  rw [OO] at O
  have e := Option.some.inj O
  dsimp only at h1
  have e2 := Option.some.inj h1
  subst e2
  split at e
  ·cases e
  ·cases e
 | inl u =>
  dsimp only at h1
  rw [X, Option.bind_some] at h1
  dsimp only at h1
  rw [M3 l b (Gf X), Option.bind_some] at h1
  dsimp only at h1
  cases hz : (b && l.all fun a => decide ((a.2.length : Int) ≤ SO a.1)) with
  | false => rw [hz] at h1; simp at h1
  | true =>
   rw [Bool.and_eq_true, List.all_eq_true] at hz
   exact ⟨hz.1, fun a ha => by simpa using hz.2 a ha⟩
theorem Gw {p0 : AK} {l : List (Int × List UInt8)} {b : Bool} {x1 : Int} (h1 : BG p0 = some x1) (h2 : (x1 != (0 : Int)) = false) (X : Bd p0 = some (l, b)) :
  ∀ l', l'.Perm l → Bg CK l' (List.replicate (512 : Int).toNat (0 : UInt8)) = Bg CK l (List.replicate (512 : Int).toNat (0 : UInt8)) := by
 obtain ⟨_, hl⟩ := N1 h1 h2 X
 have hk := Gf X
 obtain ⟨p, q, _, rfl⟩ := R6 X
 have n1 := hl (0, q) (by simp)
 have n2 := hl (11, p) (by simp)
 have n3 := hl (6, p0.Az) (by simp)
 have n4 := hl (7, p0.Ah) (by simp)
 have n5 := hl (8, p0.Aj) (by simp)
 simp only [SO] at n1 n2 n3 n4 n5
 refine fun l' hl' => Rf (fun a => U6 a.1) (fun a => a.2) (fun a ha z hz => E4 (hk a ha) hz) (fun a ha => ?_) (fun a ha c hc => ?_) l' hl' _ (by rw [List.length_replicate]; rfl)
 ·simp only [List.mem_cons, List.not_mem_nil, or_false] at ha
  rcases ha with rfl | rfl | rfl | rfl | rfl <;> simp [U6] at * <;> omega
 ·simp only [List.mem_cons, List.not_mem_nil, or_false] at ha hc
  rcases ha with rfl | rfl | rfl | rfl | rfl <;> rcases hc with rfl | rfl | rfl | rfl | rfl <;> first | exact .inl rfl | (simp [U6] at * <;> omega)
theorem OX : ∀ (l : List (Int × List UInt8)) (z z' : List UInt8), (∀ a ∈ l, a.1 = 0 ∨ a.1 = 11 ∨ a.1 = 6 ∨ a.1 = 7 ∨ a.1 = 8) → z.length = 512 → (∀ a ∈ l, U6 a.1 + a.2.length ≤ 512) → Bg CK l z = some (.inl z') → z'.length = 512
 | [], z, z', _, hz, _, e => by
  simp only [Bg, Option.some.injEq, Sum.inl.injEq] at e
  rw [← e]; exact hz
 | a :: l, z, z', hk, hz, B, e => by
  rw [Bg, E4 (hk a (by simp)) hz] at e
  dsimp only at e
  exact OX l _ z' (fun c hc => hk c (by simp [hc])) (by rw [CY (by have := B a (by simp); omega)]; exact hz) (fun c hc => B c (by simp [hc])) e
theorem Rl {l : List (Int × List UInt8)} (hk : ∀ a ∈ l, a.1 = 0 ∨ a.1 = 11 ∨ a.1 = 6 ∨ a.1 = 7 ∨ a.1 = 8) (hl : ∀ a ∈ l, (a.2.length : Int) ≤ SO a.1) : ∀ a ∈ l, U6 a.1 + a.2.length ≤ 512 := by
 intro a ha
 have h1 := hl a ha
 obtain ⟨k, s⟩ := a
 have h2 := hk _ ha
 dsimp only at h1 h2 ⊢
 rcases h2 with rfl | rfl | rfl | rfl | rfl <;> simp [SO] at h1 <;> simp [U6] <;> omega
def Vu (k : Int) : Nat := if k = 1 then 100 else if k = 2 then 108 else if k = 3 then 116 else if k = 4 then 124 else if k = 5 then 136 else if k = 9 then 329 else 337
def PA (a : Int × Int) : List UInt8 := if MV a then Ba a.2.toNat (if a.1 = 4 ∨ a.1 = 5 then 12 else 8) else []
theorem J8 (a : Int × Int) : (PA a).length ≤ if a.1 = 4 ∨ a.1 = 5 then 12 else 8 := by
 unfold PA
 split
 ·rw [CP (by split <;> omega)]; exact Nat.le_refl _
 ·simp
theorem EU {a : Int × Int} (h : a.1 = 1 ∨ a.1 = 2 ∨ a.1 = 3 ∨ a.1 = 4 ∨ a.1 = 5 ∨ a.1 = 9 ∨ a.1 = 10) {z : List UInt8} (hz : z.length = 512) : DW a z = some (.inl (putAt z (Vu a.1) (PA a))) := by
 obtain ⟨k, v⟩ := a
 dsimp only at h
 have e8 := Ki v (k := 7) (by omega) (by omega)
 have e12 := Ki v (k := 11) (by omega) (by omega)
 have p8 : (8 : Int) ^ 7 = 2097152 := rfl
 have p12 : (8 : Int) ^ 11 = 8589934592 := rfl
 rw [p8] at e8
 rw [p12] at e12
 have g8 : ∀ k : Int, ¬ (k = 4 ∨ k = 5) → ∀ o : Nat, o ≤ 512 → (CU v 8).bind (fun (x : List UInt8 × Bool) => match x with | (x9, x10) => (U7 z (o : Int)).bind fun o4 => some (.inl (putAt z o4 x9))) = some (.inl (putAt z o (PA (k, v))) : List UInt8 ⊕ Empty) := fun k hk o O => by
  rw [show (8 : Int) = ((7 + 1 : Nat) : Int) from rfl, e8, Option.bind_some]
  unfold PA MV
  dsimp only
  rw [if_neg hk, if_neg hk]
  by_cases hv : 0 ≤ v ∧ v < 2097152
  ·simp only [if_pos hv, decide_eq_true hv, if_true, PS hz O, Option.bind_some]
  ·simp only [if_neg hv, decide_eq_false hv, Bool.false_eq_true, if_false, PS hz O, Option.bind_some]
 have g12 : ∀ k : Int, (k = 4 ∨ k = 5) → ∀ o : Nat, o ≤ 512 → (CU v 12).bind (fun (x : List UInt8 × Bool) => match x with | (x9, x10) => (U7 z (o : Int)).bind fun o4 => some (.inl (putAt z o4 x9))) = some (.inl (putAt z o (PA (k, v))) : List UInt8 ⊕ Empty) := fun k hk o O => by
  rw [show (12 : Int) = ((11 + 1 : Nat) : Int) from rfl, e12, Option.bind_some]
  unfold PA MV
  dsimp only
  rw [if_pos hk, if_pos hk]
  by_cases hv : 0 ≤ v ∧ v < 8589934592
  ·simp only [if_pos hv, decide_eq_true hv, if_true, PS hz O, Option.bind_some]
  ·simp only [if_neg hv, decide_eq_false hv, Bool.false_eq_true, if_false, PS hz O, Option.bind_some]
 rcases h with rfl | rfl | rfl | rfl | rfl | rfl | rfl
 ·exact g8 1 (by omega) 100 (by omega)
 ·exact g8 2 (by omega) 108 (by omega)
 ·exact g8 3 (by omega) 116 (by omega)
 ·exact g12 4 (by omega) 124 (by omega)
 ·exact g12 5 (by omega) 136 (by omega)
 ·exact g8 9 (by omega) 329 (by omega)
 ·exact g8 10 (by omega) 337 (by omega)
theorem G4 {p0 : AK} {l : List (Int × List UInt8)} {m : List (Int × Int)} {b : Bool} {x1 : Int} {z : List UInt8} (h1 : BG p0 = some x1) (h2 : (x1 != (0 : Int)) = false) (X : Bd p0 = some (l, b))
  (h3 : Bg CK l (List.replicate (512 : Int).toNat (0 : UInt8)) = some (.inl z)) (hv : B3 p0 = some m) : ∀ l', l'.Perm m → Bg DW l' z = Bg DW m z := by
 obtain ⟨_, hl⟩ := N1 h1 h2 X
 have hz := OX l _ z (Gf X) (by rw [List.length_replicate]; rfl) (Rl (Gf X) hl) h3
 have hk := KA hv
 refine fun l' hl' => Rf (fun a => Vu a.1) PA (fun a ha z hz => EU (hk a ha) hz) (fun a ha => ?_) (fun a ha c hc => ?_) l' hl' _ hz
 ·have := J8 a
  obtain ⟨k, v⟩ := a
  have h := hk _ ha
  dsimp only at h this ⊢
  rcases h with rfl | rfl | rfl | rfl | rfl | rfl | rfl <;> simp at this <;> simp [Vu] <;> omega
 ·rw [PW hv] at ha hc
  have n1 := J8 a
  have n2 := J8 c
  simp only [List.mem_cons, List.not_mem_nil, or_false] at ha hc
  rcases ha with rfl | rfl | rfl | rfl | rfl | rfl | rfl <;> rcases hc with rfl | rfl | rfl | rfl | rfl | rfl | rfl <;> first | exact .inl rfl | (simp at n1 n2; simp [Vu]; omega)
def Dx (p0 : AK) : Option ((List UInt8) × Int) :=
 (BG p0).bind fun x1 => Aa (x1 != 0) (some (([] : UV), x1)) (BS (ZR 1 (512 : Int)) <| (Bd p0).bind fun (x2, x3) => (Bg (CK) x2 (List.replicate (512 : Int).toNat (0 : UInt8))).bind fun o => (match o with | .inl z2 => (B3 p0).bind fun x6 => (Bg (DW) x6 z2).bind fun o => (match o with | .inl z4 => ((Hj z4 (156 : Int)).bind fun x14 => (Wp p0.Kind).bind fun x15 => Aa (p0.Kind == 0) ((Hj (z4.set (156 : Int).toNat x15) (156 : Int)).bind fun x16 => some ((z4.set (156 : Int).toNat x15).set (156 : Int).toNat (48 : UInt8))) (some (z4.set (156 : Int).toNat x15)) : Option (((List UInt8)))).bind fun x13 => (U7 x13 (257 : Int)).bind fun o6 => (E7 (putAt x13 o6 ([117, 115, 116, 97, 114, 0, 48, 48] : UV))).bind fun (x17, x18) => some (x17, x18) | .inr y => y.elim) | .inr y => y.elim))
theorem Jo {p0 q0 q1} (M : Dx p0 = some (q0, q1)) (A : HH g h [] F) (hc : A9 (cfg.still 28) av = [.agg (AI p0)] := by kernel_rfl) : ∃ v Q, BB cfg g h 28 av v Q ∧ v = .tuple [.str q0, Ai q1] ∧ HH g Q [] F := by
 refine UC (n := 82) (rs := [.tmp 2, .tmp 3]) (by kernel_rfl) hc (by kernel_rfl) ?_
 clear hc
 unfold Dx at M
 refine V9 (n := 82) [(0, .agg (AI p0))] (by kernel_rfl) (by kernel_rfl) ?_
 intro D H
 refine Fh ?_
 refine Io ?_
 refine BO 3 ?_
 obtain ⟨h1, e1, A⟩ := A.pu (.cells none 2 (AI p0))
 refine BF 1 (.ptr (some (h.size, 0))) e1 H fun D t H => ?_
 refine AG 2 [] H fun D H => at_nil ?_
 show PX cfg 28 g (right (GF cfg.P 28)) D h1 _
 refine Fh ?_
 refine Io ?_
 refine AF 3 (AZ 14 _ _ H (fun D => .of (BD (by kernel_rfl) (A.ET 0 rfl (o := 0) (n := 13) ⟨Nat.le_of_ble_eq_true rfl, rfl⟩))) fun D t H => ?_)
 obtain ⟨x1, X, M⟩ := bind_some M
 obtain ⟨v1, h2, R, rfl, E⟩ := Ct (av := [.agg (AI p0)]) X (A.cut 0)
 replace A : HH g h2 [.obj h.size (.cells none 2 (AI p0))] F := A.GC (n := 0) E
 refine A0 15 R H fun D t H => ?_
 refine Be 1 [(4, Ai x1)] 2 H fun D H => AL 2 [(17, .bool (x1 != 0))] H fun D H => AX 17 H M (fun B M H => ?_) fun B M H => ?_
 ·refine AF 3 (AL 3 [(2, .str ([] : UV)), (3, Ai x1)] H fun D H => AQ ?_)
  obtain ⟨rfl, rfl⟩ := Bn M
  refine ⟨.inl rfl, .tuple [.str ([] : UV), Ai x1], rH H, ?_⟩
  replace A := A.d0
  exact ⟨rfl, A⟩
 refine F9 ?_
 show PX cfg 28 g (right (right (GF cfg.P 28))) D h2 _
 refine Fh ?_
 refine Io ?_
 refine BO 2 ?_
 obtain ⟨B, M⟩ := AO M
 obtain ⟨h3, e2, A⟩ := A.pL 5 (Ag eY (List.replicate (512 : Int).toNat (0 : UInt8)))
 refine AZ 19 (AP (some h2.size) (List.replicate (512 : Int).toNat (0 : UInt8)).length) h3 H (fun D => .of (WD (e := eY) JA (x := (0 : UInt8)) (by kernel_rfl) B (congrArg some e2.symm))) fun D t H => ?_
 refine AG 1 [(5, AP (some h2.size) ((List.replicate (512 : Int).toNat (0 : UInt8)).length))] H fun D H => at_nil ?_
 show PX cfg 28 g (right (right (right (GF cfg.P 28)))) D h3 _
 refine Fh ?_
 refine Io ?_
 refine BO 7 (AZ 21 _ _ H (fun D => .of (BD (by kernel_rfl) (A.ET 1 rfl (o := 0) (n := 13) ⟨Nat.le_of_ble_eq_true rfl, rfl⟩))) fun D t H => ?_)
 obtain ⟨⟨x2, x3⟩, X, M⟩ := bind_some M
 obtain ⟨v1, h4, R, bqw2, rfl, E⟩ := Jl (av := [.agg (AI p0)]) X (A.cut 0)
 replace A : HH g h4 [.obj bqw2 (.map 2 (FB (fun k : Int => Ai k) (fun v : List UInt8 => .str v) x2)), .Ag (some h2.size) 5 (Ag eY (List.replicate (512 : Int).toNat (0 : UInt8))), _] F := A.GC (n := 0) E
 refine A0 22 R H fun D t H => ?_
 refine AG 5 [(6, .map (some bqw2))] H fun D H => at_nil ?_
 show PX cfg 28 g (right (right (right (right (GF cfg.P 28))))) D h4 _
 refine Fh ?_
 refine Nu 1 [26, 5, 1] [] (some 5) ?_
 refine AG 1 [(25, .map (some bqw2))] H fun D H => at_nil ?_
 obtain ⟨o1, O, M⟩ := bind_some M
 refine RP (step := CK) (l := x2) (s0 := (List.replicate (512 : Int).toNat (0 : UInt8))) (x0 := o1) (enc := fun p => ((fun k : Int => Ai k) p.1, (fun v : List UInt8 => .str v) p.2)) (V := (fun (z1 : (List UInt8)) => [(1, .ptr (some (h.size, 0)))])) (row := (fun (z1 : (List UInt8)) => z1)) 0 1 h2.size 26 27 29 5 4 122 3 9 (.tmp 25) A H O (by first | exact Gw | (apply Gw <;> assumption)) rfl rfl (by decide) (fun D => by kernel_rfl) (fun D => by kernel_rfl) (fun _ => rfl) (fun s => by exact (JU.cons (A.Ye 2 rfl _) JU.nil)) ?_ ?_
 ·clear O M H A
  intro pp hpp s x M D h5 it g F A H
  obtain ⟨z1, hzz⟩ : ∃ z, z = s := ⟨_, rfl⟩
  subst hzz
  unfold CK at M
  replace H := H.less [(1, .ptr (some (h.size, 0))), (5, AP (some h2.size) z1.length), (26, it), (29, .tuple [Ai pp.1, .str pp.2])] (fun D => by kernel_rfl)
  refine XT 4 [(8, Ai pp.1), (9, .str pp.2)] 8 H fun D H => ?_
  obtain ⟨x4, X, M⟩ := bind_some M
  obtain ⟨v1, h6, R, rfl, E⟩ := EO (av := []) X (A.cut 0)
  replace A := A.De E
  refine Aq 1 [(32, AP (some h2.size) z1.length)] 33 R H fun D t H => ?_
  obtain ⟨x5, hq1, M⟩ := bind_some M
  refine Ax 1 [] 35 (.agg [Ai x5.from_, Ai x5.D2]) h6 H (fun D => .of (MN (e := Du) (x := x5) Dz [x4.w0, x4.w1, x4.w2, x4.w3, x4.w4, x4.w5, x4.w6, x4.w7, x4.w8, x4.w9, x4.U5, x4.U9] (by kernel_rfl) rfl rfl hq1)) fun D t H => ?_
  obtain ⟨o2, hv1, M⟩ := bind_some M
  refine Ax 1 [] 37 (.slice (some (h2.size, o2)) (z1.length - o2)) h6 H (fun D => .of (Sr (s := DT (some h2.size) z1.length) (t := ⟨some (h2.size, o2), z1.length - o2⟩) (k := .i64) (k' := .i64) (lo := some x5.from_) (hi := none) (by kernel_rfl) (HH.vw A 0 rfl hv1 (by kernel_rfl)))) fun D t H => ?_
  refine AG 1 [(38, .str pp.2)] H fun D H => ?_
  obtain ⟨h7, hc, E⟩ := HH.ZO A 0 rfl hv1 pp.2
  have hl1 : (putAt z1 o2 pp.2).length = z1.length := CY (KH hv1).2.2
  have el : AP (some h2.size) z1.length = AP (some h2.size) (putAt z1 o2 pp.2).length := congrArg _ (CY (KH hv1).2.2).symm
  try rw [el] at H
  replace A : HH g h7 [.Ag (some h2.size) 5 (Ag eY (putAt z1 o2 pp.2))] F := E
  refine G2 (Ai ((min pp.2.length (z1.length - o2) : Nat) : Int)) h7 H (fun D => .of (Wr (d := ⟨some (h2.size, o2), z1.length - o2⟩) (by kernel_rfl) hc)) fun D t H => ?_
  refine at_nil ?_
  have el : AP (some h2.size) z1.length = AP (some h2.size) (putAt z1 o2 pp.2).length := congrArg _ (hl1).symm
  try rw [el] at H
  exact ⟨.inl rfl, _, (Option.some.inj M).symm, H.ls, A⟩
 intro s hs D h8 A H
 subst hs
 obtain ⟨z2, hzz⟩ : ∃ z, z = s := ⟨_, rfl⟩
 subst hzz
 replace H := H.less [(1, .ptr (some (h.size, 0))), (5, AP (some h2.size) z2.length)] (fun D => by kernel_rfl)
 show PX cfg 28 g (right (right (right (right (right (GF cfg.P 28)))))) D h8 _
 refine Fh ?_
 refine Nu 2 [42, 5, 1] [] (some 5) ?_
 refine AZ 40 _ _ H (fun D => .of (BD (by kernel_rfl) (A.ET 1 rfl (o := 0) (n := 13) ⟨Nat.le_of_ble_eq_true rfl, rfl⟩))) fun D t H => ?_
 obtain ⟨x6, X, M⟩ := bind_some M
 obtain ⟨v1, h9, R, bqw5, rfl, E⟩ := JF (av := [.agg (AI p0)]) X (A.cut 0)
 replace A := A.YV E
 refine A0 41 R H fun D t H => ?_
 refine at_nil ?_
 obtain ⟨o3, O, M⟩ := bind_some M
 refine RP (step := DW) (l := x6) (s0 := z2) (x0 := o3) (enc := fun p => ((fun k : Int => Ai k) p.1, (fun v : Int => Ai v) p.2)) (V := (fun (z3 : (List UInt8)) => [(1, .ptr (some (h.size, 0)))])) (row := (fun (z3 : (List UInt8)) => z3)) 0 1 h2.size 42 43 45 5 4 129 3 3 (.tmp 41) A H O (by first | exact G4 | (apply G4 <;> assumption)) rfl rfl (by decide) (fun D => by kernel_rfl) (fun D => by kernel_rfl) (fun _ => rfl) (fun s => by exact (JU.cons (A.Ye 2 rfl _) JU.nil)) ?_ ?_
 ·clear O M H A
  intro pp hpp s x M D h10 it g F A H
  obtain ⟨z3, hzz⟩ : ∃ z, z = s := ⟨_, rfl⟩
  subst hzz
  unfold DW at M
  replace H := H.less [(1, .ptr (some (h.size, 0))), (5, AP (some h2.size) z3.length), (42, it), (45, .tuple [Ai pp.1, Ai pp.2])] (fun D => by kernel_rfl)
  refine Be 4 [(10, Ai pp.1), (11, Ai pp.2)] 11 H fun D H => ?_
  obtain ⟨x7, X, M⟩ := bind_some M
  obtain ⟨v1, h11, R, rfl, E⟩ := EO (av := []) X (A.cut 0)
  replace A := A.De E
  refine Aq 1 [(49, Ai pp.2)] 50 R H fun D t H => ?_
  obtain ⟨x8, hq2, M⟩ := bind_some M
  refine Ax 1 [] 52 (.agg [Ai x8.from_, Ai x8.D2]) h11 H (fun D => .of (MN (e := Du) (x := x8) Dz [x7.w0, x7.w1, x7.w2, x7.w3, x7.w4, x7.w5, x7.w6, x7.w7, x7.w8, x7.w9, x7.U5, x7.U9] (by kernel_rfl) rfl rfl hq2)) fun D t H => ?_
  obtain ⟨⟨x9, x10⟩, X, M⟩ := bind_some M
  obtain ⟨v1, h12, R, rfl, E⟩ := IA (av := [Ai pp.2, Ai x8.D2]) X (A.cut 0)
  replace A := A.De E
  refine Aq 1 [] 54 R H fun D t H => ?_
  refine XT 5 [(12, .str x9)] 8 H fun D H => ?_
  obtain ⟨x11, X, M⟩ := bind_some M
  obtain ⟨v1, h13, R, rfl, E⟩ := EO (av := []) X (A.cut 0)
  replace A := A.De E
  refine Aq 1 [(57, AP (some h2.size) z3.length)] 58 R H fun D t H => ?_
  obtain ⟨x12, hq3, M⟩ := bind_some M
  refine Ax 1 [] 60 (.agg [Ai x12.from_, Ai x12.D2]) h13 H (fun D => .of (MN (e := Du) (x := x12) Dz [x11.w0, x11.w1, x11.w2, x11.w3, x11.w4, x11.w5, x11.w6, x11.w7, x11.w8, x11.w9, x11.U5, x11.U9] (by kernel_rfl) rfl rfl hq3)) fun D t H => ?_
  obtain ⟨o4, hv2, M⟩ := bind_some M
  refine Ax 1 [] 62 (.slice (some (h2.size, o4)) (z3.length - o4)) h13 H (fun D => .of (Sr (s := DT (some h2.size) z3.length) (t := ⟨some (h2.size, o4), z3.length - o4⟩) (k := .i64) (k' := .i64) (lo := some x12.from_) (hi := none) (by kernel_rfl) (HH.vw A 0 rfl hv2 (by kernel_rfl)))) fun D t H => ?_
  refine AG 1 [(63, .str x9)] H fun D H => ?_
  obtain ⟨h14, hc, E⟩ := HH.ZO A 0 rfl hv2 x9
  have hl2 : (putAt z3 o4 x9).length = z3.length := CY (KH hv2).2.2
  have el : AP (some h2.size) z3.length = AP (some h2.size) (putAt z3 o4 x9).length := congrArg _ (CY (KH hv2).2.2).symm
  try rw [el] at H
  replace A : HH g h14 [.Ag (some h2.size) 5 (Ag eY (putAt z3 o4 x9))] F := E
  refine G2 (Ai ((min x9.length (z3.length - o4) : Nat) : Int)) h14 H (fun D => .of (Wr (d := ⟨some (h2.size, o4), z3.length - o4⟩) (by kernel_rfl) hc)) fun D t H => ?_
  refine at_nil ?_
  have el : AP (some h2.size) z3.length = AP (some h2.size) (putAt z3 o4 x9).length := congrArg _ (hl2).symm
  try rw [el] at H
  exact ⟨.inl rfl, _, (Option.some.inj M).symm, H.ls, A⟩
 intro s hs D h15 A H
 subst hs
 obtain ⟨z4, hzz⟩ : ∃ z, z = s := ⟨_, rfl⟩
 subst hzz
 replace H := H.less [(1, .ptr (some (h.size, 0))), (5, AP (some h2.size) z4.length)] (fun D => by kernel_rfl)
 show PX cfg 28 g (right (right (right (right (right (right (GF cfg.P 28))))))) D h15 _
 refine Io ?_
 refine AN ?_
 obtain ⟨o5, O, M⟩ := bind_some M
 refine Ao (Q' := fun e N Q => (∃ x13, e = .normal ∧ x13 = o5 ∧ ∃ (hl3 : x13.length = z4.length), Has N 82 [(5, AP (some h2.size) x13.length)] ∧ HH g Q [.Ag (some h2.size) 5 (Ag eY x13), .obj h.size (.cells none 2 (AI p0))] F) ∨ False) ?_ ?_
 ·replace M := O
  clear O
  refine AF 5 (AV 2 [(65, AP (some h2.size) z4.length)] 67 1 2 A H fun D t H => ?_)
  obtain ⟨x14, X, M⟩ := bind_some M
  obtain ⟨i1, er1, _, X, hq4⟩ := HH.SL JA (by decide) A 0 (xs := z4) rfl X
  refine AZ 68 (.ptr (some (i1, (156 : Int).toNat * 1))) h15 H (fun D => .of (HN (s := DT (some h2.size) z4.length) (by kernel_rfl) X)) fun D t H => ?_
  obtain ⟨x15, X, M⟩ := bind_some M
  have X := TP X
  rw [X] at H
  obtain ⟨h16, X, E⟩ := HH.ab JA A 0 rfl er1 hq4 (y := x15) (o := 0) (new := [Ab (x15.toNat : Int)]) rfl rfl (Nat.le_of_ble_eq_true rfl)
  have hl4 : (z4.set (156 : Int).toNat x15).length = z4.length := List.length_set
  have el : AP (some h2.size) z4.length = AP (some h2.size) (z4.set (156 : Int).toNat x15).length := congrArg _ List.length_set.symm
  try rw [el] at H
  try rw [el] at E
  replace A : HH g h16 [.Ag (some h2.size) 5 (Ag eY (z4.set (156 : Int).toNat x15)), _] F := E
  refine KY X H fun D t H => ?_
  refine CT 3 id (AV 1 [] 70 1 2 A H fun D t H => ?_)
  refine AL 1 [(71, .bool (p0.Kind == 0))] H fun D H => AX 71 H M (fun B M H => ?_) fun B M H => ?_
  ·refine BO 3 ?_
   obtain ⟨x16, X, M⟩ := bind_some M
   obtain ⟨i2, er2, _, X, hq5⟩ := HH.SL JA (by decide) A 0 (xs := (z4.set (156 : Int).toNat x15)) rfl X
   refine Ax 1 [] 73 (.ptr (some (i2, (156 : Int).toNat * 1))) h16 H (fun D => .of (HN (s := DT (some h2.size) ((z4.set (156 : Int).toNat x15).length)) (by kernel_rfl) X)) fun D t H => ?_
   obtain ⟨h17, X, E⟩ := HH.ab JA A 0 rfl er2 hq5 (y := (48 : UInt8)) (o := 0) (new := [Ab 48]) rfl rfl (Nat.le_of_ble_eq_true rfl)
   have hl5 : ((z4.set (156 : Int).toNat x15).set (156 : Int).toNat (48 : UInt8)).length = z4.length := List.length_set.trans hl4
   have el : AP (some h2.size) (z4.set (156 : Int).toNat x15).length = AP (some h2.size) ((z4.set (156 : Int).toNat x15).set (156 : Int).toNat (48 : UInt8)).length := congrArg _ List.length_set.symm
   try rw [el] at H
   try rw [el] at E
   replace A : HH g h17 [.Ag (some h2.size) 5 (Ag eY ((z4.set (156 : Int).toNat x15).set (156 : Int).toNat (48 : UInt8))), _] F := E
   refine KY X H fun D t H => ?_
   refine at_nil ?_
   exact .inl ⟨_, rfl, Ad M, hl5, H.ls, A⟩
  exact F9 (.inl ⟨_, rfl, Ad M, hl4, H.ls, A⟩)
 clear O
 clear A
 intro e D h18 hQ
 rcases hQ with ⟨x13, rfl, rfl, hl3, H, A⟩ | hF
 ·show AW _ _ _ _ _ _ _
  refine AF 3 ?_
  obtain ⟨o6, hv3, M⟩ := bind_some M
  refine Ax 1 [] 75 (.slice (some (h2.size, o6)) (x13.length - o6)) h18 H (fun D => .of (Sr (s := DT (some h2.size) x13.length) (t := ⟨some (h2.size, o6), x13.length - o6⟩) (k := .i64) (k' := .i64) (lo := some (257 : Int)) (hi := none) (by kernel_rfl) (HH.vw A 0 rfl hv3 (by kernel_rfl)))) fun D t H => ?_
  obtain ⟨h19, hc, E⟩ := HH.ZO A 0 rfl hv3 ([117, 115, 116, 97, 114, 0, 48, 48] : UV)
  have hl6 : (putAt x13 o6 ([117, 115, 116, 97, 114, 0, 48, 48] : UV)).length = z4.length := (CY (KH hv3).2.2).trans hl3
  have el : AP (some h2.size) x13.length = AP (some h2.size) (putAt x13 o6 ([117, 115, 116, 97, 114, 0, 48, 48] : UV)).length := congrArg _ (CY (KH hv3).2.2).symm
  try rw [el] at H
  replace A : HH g h19 [.Ag (some h2.size) 5 (Ag eY (putAt x13 o6 ([117, 115, 116, 97, 114, 0, 48, 48] : UV))), _] F := E
  refine G2 (Ai ((min ([117, 115, 116, 97, 114, 0, 48, 48] : UV).length (x13.length - o6) : Nat) : Int)) h19 H (fun D => .of (Wr (d := ⟨some (h2.size, o6), x13.length - o6⟩) (by kernel_rfl) hc)) fun D t H => ?_
  refine CT 7 id (AG 1 [(77, AP (some h2.size) ((putAt x13 o6 ([117, 115, 116, 97, 114, 0, 48, 48] : UV)).length))] H fun D H => AZ 78 (.str (putAt x13 o6 ([117, 115, 116, 97, 114, 0, 48, 48] : UV))) h19 H (fun D => .of (Pe (xs := putAt x13 o6 ([117, 115, 116, 97, 114, 0, 48, 48] : UV)) A 0 rfl (by kernel_rfl))) fun D t H => ?_)
  obtain ⟨⟨x17, x18⟩, X, M⟩ := bind_some M
  obtain ⟨v1, h20, R, rfl, E⟩ := Qn (av := [.str (putAt x13 o6 ([117, 115, 116, 97, 114, 0, 48, 48] : UV))]) X (A.cut 0)
  replace A := A.De E
  refine A0 79 R H fun D t H => ?_
  refine AL 4 [(2, .str x17), (3, Ai x18)] H fun D H => AQ ?_
  obtain ⟨rfl, rfl⟩ := Bn M
  refine ⟨.inl rfl, .tuple [.str x17, Ai x18], rH H, ?_⟩
  replace A := A.d0
  exact ⟨rfl, A⟩
 exact hF.elim
def CJ (p0 : List (List UInt8)) (s : (List UInt8) × Int) : Option (((List UInt8) × Int) ⊕ (((List UInt8)))) :=
 match s with
 | (x1, x2) => Aa (decide (x2 < (p0.length : Int))) ((Hj p0 x2).bind fun x4 => BS (Ov 1 (x1.length + x4.length)) <| some (.inl ((x1 ++ x4), i64.wrap (x2 + 1)))) (some (.inr x1))
def Dq (p0 : List (List UInt8)) : Option ((List UInt8)) :=
 (loop (CJ p0) (([] : UV), (0 : Int))).bind fun x3 => some x3
theorem IP {p0 rp0 q0} (M : Dq p0 = some q0) (A : HH g h [.Ag rp0 9 (Ag eS p0)] F) (hc : A9 (cfg.still 47) av = [AP rp0 p0.length] := by kernel_rfl) : ∃ v Q, BB cfg g h 47 av v Q ∧ v = .str q0 ∧ HH g Q [.Ag rp0 9 (Ag eS p0)] F := by
 refine Dj 18 [.tmp 2] hc ?_
 clear hc
 unfold Dq at M
 refine bg 18 [(0, AP rp0 p0.length)] fun D H => ?_
 refine AF 1 (Be 1 [] 1 H fun D H => AL 1 [(3, .slice none 0)] H fun D H => AN (AF 3 (AL 3 [(6, AP rp0 p0.length), (7, Ai (p0.length : Int)), (8, Ai 0)] H fun D H => Ae (id := 0) (by kernel_rfl) ?_)))
 replace A : HH g h [.Ag none 5 (Ag eY ([] : UV)), _] F := A.Xk 5
 obtain ⟨o1, O, M⟩ := bind_some M
 refine Ao (Q' := fun e N Q => (∃ x3, e = .exit 0 ∧ x3 = o1 ∧ ∃ r2, Has N 18 [(3, AP r2 x3.length)] ∧ HH g Q [.Ag r2 5 (Ag eY x3), .Ag rp0 9 (Ag eS p0)] F) ∨ False) ?_ ?_
 ·refine Bc (by kernel_rfl) (fun (s : (List UInt8) × Int) N Q => ∃ x1 x2, (x1, x2) = s ∧ ∃ r1, Has N 18 [(3, AP r1 x1.length), (6, AP rp0 p0.length), (7, Ai (p0.length : Int)), (8, Ai x2)] ∧ HH g Q [.Ag r1 5 (Ag eY x1), .Ag rp0 9 (Ag eS p0)] F) O ⟨_, _, rfl, none, H.ls, A⟩ ?_
  clear O M H A
  intro s q D h1 hI M
  obtain ⟨x1, x2, rfl, r1, H, A⟩ := hI
  unfold CJ at M
  refine AF 1 (AL 1 [(9, .bool (decide (x2 < (p0.length : Int))))] H fun D H => AN (AX 9 H M (fun B M H => ?_) fun B M H => ?_))
  ·refine Bl id (AN (Ae (id := 1) (by kernel_rfl) ?_))
   refine AF 3 ?_
   obtain ⟨x4, X, M⟩ := bind_some M
   obtain ⟨i1, er1, _, X, hq1⟩ := HH.SL encS (by decide) A 1 (xs := p0) rfl X
   refine AZ 10 (.ptr (some (i1, x2.toNat * 1))) h1 H (fun D => .of (HN (s := DT rp0 p0.length) (by kernel_rfl) X)) fun D t H => ?_
   refine AZ 11 _ _ H (fun D => .of (GN (by kernel_rfl) (IW encS (HH.row A 1 rfl er1) hq1 (o := 0) rfl))) fun D t H => ?_
   refine XT 1 [(5, .str x4)] 4 H fun D H => AG 2 [(12, AP r1 x1.length), (13, .str x4)] H fun D H => ?_
   obtain ⟨B, M⟩ := AO M
   obtain ⟨r3, h2, X, E⟩ := HH.Ju JA (by decide) A 0 (xs := x1) (ys := x4) rfl (Se _ x4) (JA.A9 _) rfl B
   replace A : HH g h2 [.Ag r3 5 (Ag eY (x1 ++ x4)), _] F := E
   refine AZ 14 _ _ H (fun D => .of (GY (s := DT r1 x1.length) (by kernel_rfl) X)) fun D t H => ?_
   refine A5 1 [(3, AP r3 ((x1 ++ x4).length)), (6, AP rp0 p0.length), (7, Ai (p0.length : Int)), (8, Ai x2)] H fun D H => FY 2 id (A5 2 [(3, AP r3 ((x1 ++ x4).length)), (6, AP rp0 p0.length), (7, Ai (p0.length : Int)), (8, Ai (i64.wrap (x2 + 1)))] H fun D H => at_nil ?_)
   exact nx M ⟨_, _, rfl, _, H.ls, A⟩
  refine Bb (i := 0) (by kernel_rfl) ?_
  exact nr M fun e => .inl ⟨_, rfl, e, _, H.ls, A⟩
 clear O
 clear A
 intro e D h3 hQ
 rcases hQ with ⟨x3, rfl, rfl, r2, H, A⟩ | hF
 ·show AW _ _ _ _ _ _ _
  refine AF 3 (AG 1 [(16, AP r2 x3.length)] H fun D H => AZ 17 (.str x3) h3 H (fun D => .of (Pe (xs := x3) A 0 rfl (by kernel_rfl))) fun D t H => ?_)
  refine AL 1 [(2, .str x3)] H fun D H => AQ ?_
  obtain rfl := Ad M
  refine ⟨.inl rfl, .str x3, rH H, ?_⟩
  replace A := A.k1 1
  exact ⟨rfl, A⟩
 exact hF.elim
def Et (p0 : List AA) : Option ((List UInt8) × Int) :=
 (ED p0).bind fun (x1, x2) => Aa ((x2 != 0) || (x1 == ([] : UV))) (some (([] : UV), x2)) ((Dx (⟨([80, 97, 120, 72, 101, 97, 100, 101, 114, 115] : UV), ([] : UV), (120 : Int), (420 : Int), (0 : Int), (0 : Int), (x1.length : Int), (0 : Int), ([] : UV), ([] : UV), (0 : Int), (0 : Int), (0 : Int)⟩ : AK)).bind fun (x3, x4) => (He x1).bind fun x5 => (Dq ([x3, x5] : List (List UInt8))).bind fun x6 => some (x6, x4))
theorem Lp {p0 rp0 q0 q1} (M : Et p0 = some (q0, q1)) (A : HH g h [.Ag rp0 117 (Ag AJ p0)] F) (hc : A9 (cfg.still 46) av = [AP rp0 p0.length] := by kernel_rfl) : ∃ v Q, BB cfg g h 46 av v Q ∧ v = .tuple [.str q0, Ai q1] ∧ HH g Q [.Ag rp0 117 (Ag AJ p0)] F := by
 refine Dj 32 [.tmp 2, .tmp 3] hc ?_
 clear hc
 unfold Et at M
 refine bg 32 [(0, AP rp0 p0.length)] fun D H => ?_
 refine AF 2 (Be 2 [] 7 H fun D H => ?_)
 obtain ⟨⟨x1, x2⟩, X, M⟩ := bind_some M
 obtain ⟨v1, h1, R, rfl, E⟩ := Lh (av := [AP rp0 p0.length]) X (A.cut 1)
 replace A := A.g11 E
 refine Aq 1 [] 9 R H fun D t H => ?_
 refine AL 5 [(4, .str x1), (5, Ai x2)] H fun D H => AN (AF 6 (AG 3 [(14, .bool (x2 != 0))] H fun D H => Al 3 (fun N Q => h1 = Q ∧ Has N 32 [(4, .str x1), (5, Ai x2), (17, .bool ((x2 != 0) || (x1 == ([] : UV))))]) ?_ ?_))
 ·cases B : (x2 != 0 : Bool) with
  | true =>
   replace H := H.kn 14 B
   exact AG 3 [(17, .bool true)] H fun D H => Ac H B
  | false =>
   replace H := H.kn 14 B
   exact AG 3 [(17, .bool (x1 == ([] : UV)))] H fun D H => Ac H B
 intro t D Q hK
 obtain ⟨e, H⟩ := hK
 subst e
 refine BK id (AX 17 H M (fun B M H => ?_) fun B M H => ?_)
 ·refine AF 3 (AL 3 [(2, .str ([] : UV)), (3, Ai x2)] H fun D H => AQ ?_)
  obtain ⟨rfl, rfl⟩ := Bn M
  exact ⟨.inl rfl, _, rH H, rfl, A⟩
 refine Bs 9 id ?_
 obtain ⟨⟨x3, x4⟩, X, M⟩ := bind_some M
 obtain ⟨v1, h2, R, rfl, E⟩ := Jo (av := [.agg [.str ([80, 97, 120, 72, 101, 97, 100, 101, 114, 115] : UV), .str ([] : UV), Ab 120, Ai 420, Ai 0, Ai 0, Ai (x1.length : Int), Ai 0, .str ([] : UV), .str ([] : UV), Ai 0, Ai 0, Ai 0]]) X (A.cut 0)
 replace A := A.De E
 refine Aq 3 [] 23 R H fun D t H => ?_
 refine A5 5 [(4, .str x1), (5, Ai x4), (6, .str x3)] H fun D H => CT 8 id ?_
 obtain ⟨x5, X, M⟩ := bind_some M
 obtain ⟨v1, h3, R, rfl, E⟩ := Rm (av := [.str x1]) X (A.cut 0)
 replace A := A.De E
 refine Aq 2 [(26, .str x3)] 28 R H fun D t H => ?_
 obtain ⟨h4, e1, A⟩ := A.pL 9 [.str x3, .str x5]
 refine BF 29 (AP (some h3.size) (([x3, x5] : List (List UInt8)).length)) e1 H fun D t H => ?_
 replace A : HH g h4 [.Ag (some h3.size) 9 (Ag eS ([x3, x5] : List (List UInt8))), _] F := A
 obtain ⟨x6, X, M⟩ := bind_some M
 obtain ⟨v1, h5, R, rfl, E⟩ := IP (av := [AP (some h3.size) (([x3, x5] : List (List UInt8)).length)]) X (A.cut 1)
 replace A := A.g11 E
 refine A0 30 R H fun D t H => ?_
 refine AL 3 [(2, .str x6), (3, Ai x4)] H fun D H => AQ ?_
 obtain ⟨rfl, rfl⟩ := Bn M
 refine ⟨.inl rfl, .tuple [.str x6, Ai x4], rH H, ?_⟩
 replace A := A.k1 1
 exact ⟨rfl, A⟩
def GR (p0 : AR) (p1 : Int) : Option (AK × Int) :=
 (Ei p0 p1).bind fun x1 => Aa (x1 != 0) (some ((⟨([] : UV), ([] : UV), (0 : Int), (0 : Int), (0 : Int), (0 : Int), (0 : Int), (0 : Int), ([] : UV), ([] : UV), (0 : Int), (0 : Int), (0 : Int)⟩ : AK), x1)) ((FF p0 p1).bind fun (x2, x3) => some (x2, (0 : Int)))
theorem PE {p0 p1 q0 q1} (M : GR p0 p1 = some (q0, q1)) (A : HH g h [] F) (hc : A9 (cfg.still 26) av = [.agg (AE p0), Ai p1] := by kernel_rfl) : ∃ v Q, BB cfg g h 26 av v Q ∧ v = .tuple [.agg (AI q0), Ai q1] ∧ HH g Q [] F := by
 refine Dj 23 [.cell 4 35, .tmp 5] hc ?_
 clear hc
 unfold GR at M
 refine bg 23 [(0, .agg (AE p0)), (1, Ai p1)] fun D H => ?_
 refine AF 3 ?_
 obtain ⟨h1, e1, A⟩ := A.pu (.cells none 2 (AE p0))
 refine BF 2 (.ptr (some (h.size, 0))) e1 H fun D t H => ?_
 obtain ⟨h2, e2, A⟩ := A.pu (.cells none 2 [.str ([] : UV), .str ([] : UV), Ab 0, Ai 0, Ai 0, Ai 0, Ai 0, Ai 0, .str ([] : UV), .str ([] : UV), Ai 0, Ai 0, Ai 0])
 refine BF 4 (.ptr (some (h1.size, 0))) e2 H fun D t H => ?_
 refine AL 1 [] H fun D H => AN (AF 4 (AZ 9 _ _ H (fun D => .of (BD (by kernel_rfl) (A.ET 1 rfl (o := 0) (n := 14) ⟨Nat.le_of_ble_eq_true rfl, rfl⟩))) fun D t H => ?_))
 obtain ⟨x1, X, M⟩ := bind_some M
 obtain ⟨v1, h3, R, rfl, E⟩ := Kk (av := [.agg (AE p0), Ai p1]) X (A.cut 0)
 replace A : HH g h3 [.obj h1.size (.cells none 2 [.str ([] : UV), .str ([] : UV), Ab (0 : Int), Ai (0 : Int), Ai (0 : Int), Ai (0 : Int), Ai (0 : Int), Ai (0 : Int), .str ([] : UV), .str ([] : UV), Ai (0 : Int), Ai (0 : Int), Ai (0 : Int)]), .obj h.size (.cells none 2 (AE p0))] F := A.GC (n := 0) E
 refine Aq 1 [] 11 R H fun D t H => ?_
 refine Be 1 [(6, Ai x1)] 2 H fun D H => AL 2 [(13, .bool (x1 != 0))] H fun D H => AX 13 H M (fun B M H => ?_) fun B M H => ?_
 ·refine AF 4 ?_
  obtain ⟨h4, X, A⟩ := A.s0 0 [.str ([] : UV), .str ([] : UV), Ab 0, Ai 0, Ai 0, Ai 0, Ai 0, Ai 0, .str ([] : UV), .str ([] : UV), Ai 0, Ai 0, Ai 0] [_, _, _, _, _, _, _, _, _, _, _, _, _]
  refine JI 2 [(15, Ai x1)] X H fun D t H => ?_
  refine AL 1 [(5, Ai x1)] H fun D H => AQ ?_
  obtain ⟨rfl, rfl⟩ := Bn M
  refine ⟨.inl rfl, .tuple [.agg [.str ([] : UV), .str ([] : UV), Ab 0, Ai 0, Ai 0, Ai 0, Ai 0, Ai 0, .str ([] : UV), .str ([] : UV), Ai 0, Ai 0, Ai 0], Ai x1], DV (.cell (rT H) (C7 (by kernel_rfl) (by kernel_rfl) (A.la 0 0 13)) (.tmp (rT H) .nil)), ?_⟩
  replace A := A.d0
  exact ⟨rfl, A⟩
 refine Bs 9 id (AZ 17 _ _ H (fun D => .of (BD (by kernel_rfl) (A.ET 1 rfl (o := 0) (n := 14) ⟨Nat.le_of_ble_eq_true rfl, rfl⟩))) fun D t H => ?_)
 obtain ⟨⟨x2, x3⟩, X, M⟩ := bind_some M
 obtain ⟨v1, h5, R, rqw3, rfl, E⟩ := LS (av := [.agg (AE p0), Ai p1]) X (A.cut 0)
 replace A := A.YV E
 refine Aq 1 [] 19 R H fun D t H => ?_
 obtain ⟨h6, e3, A⟩ := A.pu (.cells none 2 [.str ([] : UV), .str ([] : UV), Ab 0, Ai 0, Ai 0, Ai 0, Ai 0, Ai 0, .str ([] : UV), .str ([] : UV), Ai 0, Ai 0, Ai 0])
 refine Jg 3 [(20, .agg (AI x2)), (21, AP rqw3 x3.length)] 7 (.ptr (some (h5.size, 0))) e3 H fun D t H => ?_
 obtain ⟨h7, X, A⟩ := A.s0 0 (AI x2) [_, _, _, _, _, _, _, _, _, _, _, _, _]
 refine DG X H fun D t H => ?_
 refine Be 1 [] 3 H fun D H => AZ 22 _ _ H (fun D => .of (BD (by kernel_rfl) (A.ET 0 rfl (o := 0) (n := 13) ⟨Nat.le_of_ble_eq_true rfl, rfl⟩))) fun D t H => ?_
 obtain ⟨h8, X, A⟩ := A.s2 0 (AI x2) [_, _, _, _, _, _, _, _, _, _, _, _, _]
 refine DG X H fun D t H => ?_
 refine AL 1 [(5, Ai 0)] H fun D H => AQ ?_
 obtain ⟨rfl, rfl⟩ := Bn M
 refine ⟨.inl rfl, .tuple [.agg (AI x2), Ai 0], DV (.cell (rT H) (C7 (by kernel_rfl) (by kernel_rfl) (A.la 2 0 13)) (.tmp (rT H) .nil)), ?_⟩
 replace A := A.d0
 exact ⟨rfl, A⟩
def Ef (p0 : AR) (p1 : Int) : Option ((List UInt8) × Int) :=
 (Aa (p0.Kind == 0) (some (48 : Int)) (some p0.Kind) : Option ((Int))).bind fun x1 => (GO (⟨p0.Name, p0.Az, x1, p0.Mode, p0.Br, p0.CH, p0.Ah, p0.Aj, p0.An, p0.A2, p0.Time, p0.Extra, p0.Data⟩ : AR) p1).bind fun x2 => Aa (x2 != 0) (some (([] : UV), x2)) ((Ex (⟨p0.Name, p0.Az, x1, p0.Mode, p0.Br, p0.CH, p0.Ah, p0.Aj, p0.An, p0.A2, p0.Time, p0.Extra, p0.Data⟩ : AR) p1).bind fun (x3, x4) => (Et x3).bind fun (x5, x6) => Aa (x6 != 0) (some (([] : UV), x6)) ((GR (⟨p0.Name, p0.Az, x1, p0.Mode, p0.Br, p0.CH, p0.Ah, p0.Aj, p0.An, p0.A2, p0.Time, p0.Extra, p0.Data⟩ : AR) p1).bind fun (x7, x8) => (Dx x7).bind fun (x9, x10) => (Dq ([x5, x9] : List (List UInt8))).bind fun x11 => some (x11, x10)))
theorem KQ {p0 p1 q0 q1} (M : Ef p0 p1 = some (q0, q1)) (A : HH g h [] F) (hc : A9 (cfg.still 13) av = [.agg (AE p0), Ai p1] := by kernel_rfl) : ∃ v Q, BB cfg g h 13 av v Q ∧ v = .tuple [.str q0, Ai q1] ∧ HH g Q [] F := by
 refine Dj 54 [.tmp 4, .tmp 5] hc ?_
 clear hc
 unfold Ef at M
 refine bg 54 [(0, .agg (AE p0)), (1, Ai p1)] fun D H => ?_
 refine AF 3 ?_
 obtain ⟨h1, e1, A⟩ := A.pu (.cells none 2 (AE p0))
 refine BF 2 (.ptr (some (h.size, 0))) e1 H fun D t H => ?_
 refine AL 2 [] H fun D H => AN ?_
 obtain ⟨o1, O, M⟩ := bind_some M
 refine Ao (Q' := fun e N Q => (∃ x1, e = .normal ∧ x1 = o1 ∧ Has N 54 [(1, Ai p1), (2, .ptr (some (h.size, 0)))] ∧ HH g Q [.obj h.size (.cells none 2 (DS p0 (Ab x1)))] F) ∨ False) ?_ ?_
 ·replace M := O
  clear O
  refine AF 3 (AV 1 [] 15 0 2 A H fun D t H => ?_)
  refine AL 1 [(16, .bool (p0.Kind == 0))] H fun D H => AX 16 H M (fun B M H => ?_) fun B M H => ?_
  ·refine BO 2 ?_
   obtain ⟨h2, X, A⟩ := A.s0 2 [Ab 48] [_, _, _, _, _, _, _, _, _, _, _, _, _, _]
   refine CO 1 [] X H fun D t H => ?_
   refine at_nil ?_
   exact .inl ⟨_, rfl, Ad M, H.ls, A⟩
  exact F9 (.inl ⟨_, rfl, Ad M, H.ls, A⟩)
 clear O
 clear A
 intro e D h3 hQ
 rcases hQ with ⟨x1, rfl, rfl, H, A⟩ | hF
 ·show AW _ _ _ _ _ _ _
  refine AN (AF 4 (AZ 18 _ _ H (fun D => .of (BD (by kernel_rfl) (A.ET 0 rfl (o := 0) (n := 14) ⟨Nat.le_of_ble_eq_true rfl, rfl⟩))) fun D t H => ?_))
  obtain ⟨x2, X, M⟩ := bind_some M
  obtain ⟨v1, h4, R, rfl, E⟩ := Ng (av := [.agg (DS p0 (Ab x1)), Ai p1]) X (A.cut 0)
  replace A := A.De E
  refine Aq 1 [] 20 R H fun D t H => ?_
  refine Be 1 [(6, Ai x2)] 2 H fun D H => AL 2 [(22, .bool (x2 != 0))] H fun D H => AX 22 H M (fun B M H => ?_) fun B M H => ?_
  ·refine AF 3 (AL 3 [(4, .str ([] : UV)), (5, Ai x2)] H fun D H => AQ ?_)
   obtain ⟨rfl, rfl⟩ := Bn M
   refine ⟨.inl rfl, .tuple [.str ([] : UV), Ai x2], rH H, ?_⟩
   replace A := A.d0
   exact ⟨rfl, A⟩
  refine Bs 8 id (AZ 25 _ _ H (fun D => .of (BD (by kernel_rfl) (A.ET 0 rfl (o := 0) (n := 14) ⟨Nat.le_of_ble_eq_true rfl, rfl⟩))) fun D t H => ?_)
  obtain ⟨⟨x3, x4⟩, X, M⟩ := bind_some M
  obtain ⟨v1, h5, R, rqw2, rfl, E⟩ := Nh (av := [.agg (DS p0 (Ab x1)), Ai p1]) X (A.cut 0)
  replace A := A.YV E
  refine Aq 1 [] 27 R H fun D t H => ?_
  refine Be 5 [(7, AP rqw2 x3.length)] 7 H fun D H => ?_
  obtain ⟨⟨x5, x6⟩, X, M⟩ := bind_some M
  obtain ⟨v1, h6, R, rfl, E⟩ := Lp (av := [AP rqw2 x3.length]) X (A.cut 1)
  replace A := A.g11 E
  refine Aq 1 [] 32 R H fun D t H => ?_
  refine AL 5 [(9, .str x5), (10, Ai x6)] H fun D H => AN (AF 2 (AL 2 [(36, .bool (x6 != 0))] H fun D H => AX 36 H M (fun B M H => ?_) fun B M H => ?_))
  ·refine AF 3 (AL 3 [(4, .str ([] : UV)), (5, Ai x6)] H fun D H => AQ ?_)
   obtain ⟨rfl, rfl⟩ := Bn M
   refine ⟨.inl rfl, .tuple [.str ([] : UV), Ai x6], rH H, ?_⟩
   replace A := A.d0
   exact ⟨rfl, A⟩
  refine Bs 9 id (AZ 39 _ _ H (fun D => .of (BD (by kernel_rfl) (A.ET 1 rfl (o := 0) (n := 14) ⟨Nat.le_of_ble_eq_true rfl, rfl⟩))) fun D t H => ?_)
  obtain ⟨⟨x7, x8⟩, X, M⟩ := bind_some M
  obtain ⟨v1, h7, R, rfl, E⟩ := PE (av := [.agg (DS p0 (Ab x1)), Ai p1]) X (A.cut 0)
  replace A := A.De E
  refine Aq 1 [] 41 R H fun D t H => ?_
  obtain ⟨h8, e2, A⟩ := A.pu (.cells none 2 [.str ([] : UV), .str ([] : UV), Ab 0, Ai 0, Ai 0, Ai 0, Ai 0, Ai 0, .str ([] : UV), .str ([] : UV), Ai 0, Ai 0, Ai 0])
  refine Jg 3 [(42, .agg (AI x7)), (43, Ai x8)] 11 (.ptr (some (h7.size, 0))) e2 H fun D t H => ?_
  obtain ⟨h9, X, A⟩ := A.s0 0 (AI x7) [_, _, _, _, _, _, _, _, _, _, _, _, _]
  refine DG X H fun D t H => ?_
  refine Be 1 [] 7 H fun D H => AZ 45 _ _ H (fun D => .of (BD (by kernel_rfl) (A.ET 0 rfl (o := 0) (n := 13) ⟨Nat.le_of_ble_eq_true rfl, rfl⟩))) fun D t H => ?_
  obtain ⟨⟨x9, x10⟩, X, M⟩ := bind_some M
  obtain ⟨v1, h10, R, rfl, E⟩ := Jo (av := [.agg (AI x7)]) X (A.cut 0)
  replace A := A.De E
  refine A0 46 R H fun D t H => ?_
  refine A5 5 [(9, .str x5), (10, Ai x10), (13, .str x9)] H fun D H => CT 7 id (AG 2 [(49, .str x5), (50, .str x9)] H fun D H => ?_)
  obtain ⟨h11, e3, A⟩ := A.pL 9 [.str x5, .str x9]
  refine BF 51 (AP (some h10.size) (([x5, x9] : List (List UInt8)).length)) e3 H fun D t H => ?_
  replace A : HH g h11 [.Ag (some h10.size) 9 (Ag eS ([x5, x9] : List (List UInt8))), _, _, _] F := A
  obtain ⟨x11, X, M⟩ := bind_some M
  obtain ⟨v1, h12, R, rfl, E⟩ := IP (av := [AP (some h10.size) (([x5, x9] : List (List UInt8)).length)]) X (A.cut 1)
  replace A := A.g11 E
  refine A0 52 R H fun D t H => ?_
  refine AL 3 [(4, .str x11), (5, Ai x10)] H fun D H => AQ ?_
  obtain ⟨rfl, rfl⟩ := Bn M
  refine ⟨.inl rfl, .tuple [.str x11, Ai x10], rH H, ?_⟩
  replace A := A.d0
  exact ⟨rfl, A⟩
 exact hF.elim
def Er (p0 : BM) (p1 : AR) (p2 : Int) : Option ((List UInt8) × Int × BM) :=
 Aa (p0.Fw || p0.Gn) (some (([] : UV), (10 : Int), p0)) ((Ef p1 p2).bind fun (x1, x2) => Aa (x2 != 0) (some (([] : UV), x2, p0)) (some (x1, (0 : Int), (⟨true, p0.Gn, p2, p2⟩ : BM))))
theorem JR {p0 p1 p2 bp0 q0 q1 u0} (M : Er p0 p1 p2 = some (q0, q1, u0)) (A : HH g h [.obj bp0 (.cells none 2 (Bq p0))] F) (hc : A9 (cfg.still 17) av = [.ptr (some (bp0, 0)), .agg (AE p1), Ai p2] := by kernel_rfl) : ∃ v Q, BB cfg g h 17 av v Q ∧ v = .tuple [.str q0, Ai q1] ∧ HH g Q [.obj bp0 (.cells none 2 (Bq u0))] F := by
 refine Dj 41 [.tmp 6, .tmp 7] hc ?_
 clear hc
 unfold Er at M
 refine bg 41 [(0, .ptr (some (bp0, 0))), (1, .agg (AE p1)), (2, Ai p2)] fun D H => ?_
 refine AF 3 ?_
 obtain ⟨h1, e1, A⟩ := A.pu (.cells none 2 (AE p1))
 refine BF 4 (.ptr (some (h.size, 0))) e1 H fun D t H => ?_
 refine AL 2 [] H fun D H => AN (AF 10 (AV 3 [] 13 1 0 A H fun D t H => ?_))
 refine AG 1 [(14, .bool p0.Fw)] H fun D H => Al 5 (fun N Q => h1 = Q ∧ Has N 41 [(0, .ptr (some (bp0, 0))), (2, Ai p2), (4, .ptr (some (h.size, 0))), (19, .bool (p0.Fw || p0.Gn))]) ?_ ?_
 ·cases B : (p0.Fw : Bool) with
  | true =>
   replace H := H.kn 14 B
   exact AG 5 [(19, .bool true)] H fun D H => Ac H B
  | false =>
   replace H := H.kn 14 B
   refine AV 3 [] 18 1 1 A H fun D t H => ?_
   exact AG 1 [(19, .bool p0.Gn)] H fun D H => Ac H B
 intro t D Q hK
 obtain ⟨e, H⟩ := hK
 subst e
 refine BK id (AX 19 H M (fun B M H => ?_) fun B M H => ?_)
 ·refine AF 2 (AL 2 [(6, .str ([] : UV)), (7, Ai 10)] H fun D H => AQ ?_)
  obtain ⟨rfl, rfl, rfl⟩ := KN M
  refine ⟨.inl rfl, .tuple [.str ([] : UV), Ai 10], rH H, ?_⟩
  replace A := A.k1 1
  exact ⟨rfl, A⟩
 refine Bs 8 id (AZ 21 _ _ H (fun D => .of (BD (by kernel_rfl) (A.ET 0 rfl (o := 0) (n := 14) ⟨Nat.le_of_ble_eq_true rfl, rfl⟩))) fun D t H => ?_)
 obtain ⟨⟨x1, x2⟩, X, M⟩ := bind_some M
 obtain ⟨v1, h2, R, rfl, E⟩ := KQ (av := [.agg (AE p1), Ai p2]) X (A.cut 0)
 replace A : HH g h2 [.obj h.size (.cells none 2 (AE p1)), _] F := A.GC (n := 0) E
 refine Aq 1 [] 23 R H fun D t H => ?_
 refine AL 5 [(8, .str x1), (9, Ai x2)] H fun D H => AN (AF 2 (AL 2 [(27, .bool (x2 != 0))] H fun D H => AX 27 H M (fun B M H => ?_) fun B M H => ?_))
 ·refine AF 3 (AL 3 [(6, .str ([] : UV)), (7, Ai x2)] H fun D H => AQ ?_)
  obtain ⟨rfl, rfl, rfl⟩ := KN M
  refine ⟨.inl rfl, .tuple [.str ([] : UV), Ai x2], rH H, ?_⟩
  replace A := A.k1 1
  exact ⟨rfl, A⟩
 refine Bs 14 id ?_
 obtain ⟨h3, X, A⟩ := A.s1 0 [.bool true] [_, _, _, _]
 refine CO 7 [(30, .ptr (some (bp0, 0))), (31, .ptr (some (bp0, 0))), (32, Ai p2), (33, Ai p2)] X H fun D t H => ?_
 obtain ⟨h4, X, A⟩ := A.s1 2 [Ai p2] [_, _, _, _]
 refine CO 2 [] X H fun D t H => ?_
 obtain ⟨h5, X, A⟩ := A.s1 3 [Ai p2] [_, _, _, _]
 refine CO 2 [] X H fun D t H => ?_
 refine CT 3 id (AL 3 [(6, .str x1), (7, Ai 0)] H fun D H => AQ ?_)
 obtain ⟨rfl, rfl, rfl⟩ := KN M
 refine ⟨.inl rfl, .tuple [.str x1, Ai 0], rH H, ?_⟩
 replace A := A.k1 1
 exact ⟨rfl, A⟩
def JY (p0 : Int) : Option (Bool) :=
 some ((decide (p0 ≥ 0)) && (decide (p0 ≤ 1099511627776)))
theorem PB {p0 q0} (M : JY p0 = some q0) (A : HH g h [] F) (hc : A9 (cfg.still 113) av = [Ai p0] := by kernel_rfl) : ∃ v Q, BB cfg g h 113 av v Q ∧ v = .bool q0 ∧ HH g Q [] F := by
 refine Dj 9 [.tmp 2] hc ?_
 clear hc
 unfold JY at M
 refine bg 9 [(0, Ai p0)] fun D H => ?_
 refine AF 1 (Be 1 [] 7 H fun D H => AG 3 [(5, .bool (decide (p0 ≥ 0)))] H fun D H => Al 3 (fun N Q => h = Q ∧ Has N 9 [(8, .bool ((decide (p0 ≥ 0)) && (decide (p0 ≤ 1099511627776))))]) ?_ ?_)
 ·cases B : (decide (p0 ≥ 0) : Bool) with
  | true =>
   replace H := H.kn 5 B
   exact AG 3 [(8, .bool (decide (p0 ≤ 1099511627776)))] H fun D H => Ac H B
  | false =>
   replace H := H.kn 5 B
   exact AG 3 [(8, .bool false)] H fun D H => Ac H B
 intro t D Q hK
 obtain ⟨e, H⟩ := hK
 subst e
 refine AL 1 [(2, .bool ((decide (p0 ≥ 0)) && (decide (p0 ≤ 1099511627776))))] H fun D H => AQ ?_
 obtain rfl := Ad M
 exact ⟨.inl rfl, _, rH H, rfl, A⟩
def Hi (p0 : Int) : Option (Int × Int) :=
 (JY p0).bind fun x1 => Aa (!x1) (some ((0 : Int), (6 : Int))) ((Gy p0).bind fun x2 => some (x2, (0 : Int)))
theorem Nc {p0 q0 q1} (M : Hi p0 = some (q0, q1)) (A : HH g h [] F) (hc : A9 (cfg.still 57) av = [Ai p0] := by kernel_rfl) : ∃ v Q, BB cfg g h 57 av v Q ∧ v = .tuple [Ai q0, Ai q1] ∧ HH g Q [] F := by
 refine Dj 9 [.tmp 2, .tmp 3] hc ?_
 clear hc
 unfold Hi at M
 refine bg 9 [(0, Ai p0)] fun D H => ?_
 refine AF 2 (AL 2 [] H fun D H => AN (AF 3 ?_))
 obtain ⟨x1, X, M⟩ := bind_some M
 obtain ⟨v1, h1, R, rfl, E⟩ := PB (av := [Ai p0]) X (A.cut 0)
 replace A := A.De E
 refine Aq 1 [] 5 R H fun D t H => ?_
 refine AL 1 [(6, .bool (!x1))] H fun D H => AX 6 H M (fun B M H => ?_) fun B M H => ?_
 ·refine AF 2 (AL 2 [(2, Ai 0), (3, Ai 6)] H fun D H => AQ ?_)
  obtain ⟨rfl, rfl⟩ := Bn M
  exact ⟨.inl rfl, _, rH H, rfl, A⟩
 refine Bs 4 id ?_
 obtain ⟨x2, X, M⟩ := bind_some M
 obtain ⟨v1, h2, R, rfl, E⟩ := MH (av := [Ai p0]) X (A.cut 0)
 replace A := A.De E
 refine Aq 1 [] 8 R H fun D t H => ?_
 refine AL 2 [(2, Ai x2), (3, Ai 0)] H fun D H => AQ ?_
 obtain ⟨rfl, rfl⟩ := Bn M
 exact ⟨.inl rfl, _, rH H, rfl, A⟩
def E8 (p0 : BM) : Option ((List UInt8) × Int × BM) :=
 Aa (!p0.Fw) (some (([] : UV), (10 : Int), p0)) (Aa (decide (p0.Lr > 0)) (some (([] : UV), (3 : Int), p0)) ((Hi p0.D2).bind fun (x1, x2) => BS (ZR 1 x1) <| some ((List.replicate x1.toNat (0 : UInt8)), (0 : Int), (⟨false, p0.Gn, p0.D2, p0.Lr⟩ : BM))))
theorem Jy {p0 bp0 q0 q1 u0} (M : E8 p0 = some (q0, q1, u0)) (A : HH g h [.obj bp0 (.cells none 2 (Bq p0))] F) (hc : A9 (cfg.still 19) av = [.ptr (some (bp0, 0))] := by kernel_rfl) : ∃ v Q, BB cfg g h 19 av v Q ∧ v = .tuple [.str q0, Ai q1] ∧ HH g Q [.obj bp0 (.cells none 2 (Bq u0))] F := by
 refine Dj 32 [.tmp 2, .tmp 3] hc ?_
 clear hc
 unfold E8 at M
 refine bg 32 [(0, .ptr (some (bp0, 0)))] fun D H => ?_
 refine AF 2 (AL 2 [] H fun D H => AN (Ae (id := 0) (by kernel_rfl) ?_))
 refine AF 6 (AV 3 [] 10 0 0 A H fun D t H => ?_)
 refine AL 2 [(6, .bool (!p0.Fw))] H fun D H => AX 6 H M (fun B M H => ?_) fun B M H => ?_
 ·refine AF 2 (AL 2 [(2, .str ([] : UV)), (3, Ai 10)] H fun D H => AQ ?_)
  obtain ⟨rfl, rfl, rfl⟩ := KN M
  exact ⟨.inl rfl, _, rH H, rfl, A⟩
 refine AF 6 (AV 3 [] 16 0 3 A H fun D t H => ?_)
 refine AL 2 [(12, .bool (decide (p0.Lr > 0)))] H fun D H => AX 12 H M (fun B M H => ?_) fun B M H => ?_
 ·refine AF 2 (AL 2 [(2, .str ([] : UV)), (3, Ai 3)] H fun D H => AQ ?_)
  obtain ⟨rfl, rfl, rfl⟩ := KN M
  exact ⟨.inl rfl, _, rH H, rfl, A⟩
 refine Bs 4 id ?_
 obtain ⟨h1, X, A⟩ := A.s0 0 [.bool false] [_, _, _, _]
 refine CO 3 [] X H fun D t H => ?_
 refine CT 10 id (AV 3 [] 25 0 2 A H fun D t H => ?_)
 obtain ⟨⟨x1, x2⟩, X, M⟩ := bind_some M
 obtain ⟨v1, h2, R, rfl, E⟩ := Nc (av := [Ai p0.D2]) X (A.cut 0)
 replace A := A.De E
 refine A0 26 R H fun D t H => ?_
 refine Be 5 [(4, Ai x1)] 5 H fun D H => ?_
 obtain ⟨B, M⟩ := AO M
 obtain ⟨h3, e1, A⟩ := A.pL 5 (Ag eY (List.replicate x1.toNat (0 : UInt8)))
 refine Ax 1 [] 30 (AP (some h2.size) (List.replicate x1.toNat (0 : UInt8)).length) h3 H (fun D => .of (WD (e := eY) JA (x := (0 : UInt8)) (by kernel_rfl) B (congrArg some e1.symm))) fun D t H => ?_
 refine AZ 31 (.str (List.replicate x1.toNat (0 : UInt8))) h3 H (fun D => .of (Pe (xs := (List.replicate x1.toNat (0 : UInt8))) A 0 rfl (by kernel_rfl))) fun D t H => ?_
 refine AL 2 [(2, .str (List.replicate x1.toNat (0 : UInt8))), (3, Ai 0)] H fun D H => AQ ?_
 obtain ⟨rfl, rfl, rfl⟩ := KN M
 refine ⟨.inl rfl, .tuple [.str (List.replicate x1.toNat (0 : UInt8)), Ai 0], rH H, ?_⟩
 replace A := A.k1 1
 exact ⟨rfl, A⟩
def LY : Option ((List UInt8)) :=
 BS (Q9 ([0] : UV) (1024 : Int)) <| some (Lib.repeatL ([0] : UV) (1024 : Int).toNat)
theorem SH {q0} (M : LY = some q0) (A : HH g h [] F) (hc : A9 (cfg.still 58) av = [] := by kernel_rfl) : ∃ v Q, BB cfg g h 58 av v Q ∧ v = .str q0 ∧ HH g Q [] F := by
 refine Dj 2 [.tmp 0] hc ?_
 clear hc
 unfold LY at M
 refine bg 2 [] fun D H => ?_
 refine AF 1 (Be 1 [] 2 H fun D H => ?_)
 obtain ⟨B, M⟩ := AO M
 refine AZ 1 (.str (Lib.repeatL ([0] : UV) (1024 : Int).toNat)) h H (fun D => Steps.call (by kernel_rfl) (Tm (C := cfg) (f := 115) (by kernel_rfl) (l := exts) rfl (by kernel_rfl) B)) fun D t H => ?_
 refine AL 1 [(0, .str (Lib.repeatL ([0] : UV) (1024 : Int).toNat))] H fun D H => AQ ?_
 obtain rfl := Ad M
 exact ⟨.inl rfl, _, rH H, rfl, A⟩
def Eo (p0 : BM) : Option ((List UInt8) × Int × BM) :=
 Aa (p0.Fw || p0.Gn) (some (([] : UV), (10 : Int), p0)) ((LY).bind fun x1 => some (x1, (0 : Int), (⟨p0.Fw, true, p0.D2, p0.Lr⟩ : BM)))
theorem JO {p0 bp0 q0 q1 u0} (M : Eo p0 = some (q0, q1, u0)) (A : HH g h [.obj bp0 (.cells none 2 (Bq p0))] F) (hc : A9 (cfg.still 20) av = [.ptr (some (bp0, 0))] := by kernel_rfl) : ∃ v Q, BB cfg g h 20 av v Q ∧ v = .tuple [.str q0, Ai q1] ∧ HH g Q [.obj bp0 (.cells none 2 (Bq u0))] F := by
 refine Dj 18 [.tmp 2, .tmp 3] hc ?_
 clear hc
 unfold Eo at M
 refine bg 18 [(0, .ptr (some (bp0, 0)))] fun D H => ?_
 refine AF 2 (AL 2 [] H fun D H => AN (AF 10 (AV 3 [] 7 0 0 A H fun D t H => ?_)))
 refine AG 1 [(8, .bool p0.Fw)] H fun D H => Al 5 (fun N Q => h = Q ∧ Has N 18 [(0, .ptr (some (bp0, 0))), (13, .bool (p0.Fw || p0.Gn))]) ?_ ?_
 ·cases B : (p0.Fw : Bool) with
  | true =>
   replace H := H.kn 8 B
   exact AG 5 [(13, .bool true)] H fun D H => Ac H B
  | false =>
   replace H := H.kn 8 B
   refine AV 3 [] 12 0 1 A H fun D t H => ?_
   exact AG 1 [(13, .bool p0.Gn)] H fun D H => Ac H B
 intro t D Q hK
 obtain ⟨e, H⟩ := hK
 subst e
 refine BK id (AX 13 H M (fun B M H => ?_) fun B M H => ?_)
 ·refine AF 2 (AL 2 [(2, .str ([] : UV)), (3, Ai 10)] H fun D H => AQ ?_)
  obtain ⟨rfl, rfl, rfl⟩ := KN M
  exact ⟨.inl rfl, _, rH H, rfl, A⟩
 refine Bs 4 id ?_
 obtain ⟨h1, X, A⟩ := A.s0 1 [.bool true] [_, _, _, _]
 refine CO 3 [] X H fun D t H => ?_
 refine CT 3 id ?_
 obtain ⟨x1, X, M⟩ := bind_some M
 obtain ⟨v1, h2, R, rfl, E⟩ := SH (av := []) X (A.cut 0)
 replace A := A.De E
 refine A0 17 R H fun D t H => ?_
 refine AL 2 [(2, .str x1), (3, Ai 0)] H fun D H => AQ ?_
 obtain ⟨rfl, rfl, rfl⟩ := KN M
 exact ⟨.inl rfl, _, rH H, rfl, A⟩
def Cl : Option (Bool) :=
 (JV).bind fun x1w1 => (Er x1w1 (⟨([97] : UV), ([] : UV), (48 : Int), (0 : Int), (0 : Int), (0 : Int), ([] : UV), ([] : UV), (0 : Int), (0 : Int), (⟨(0 : Int), (0 : Int)⟩ : BZ), ([] : List AA), ([] : UV)⟩ : AR) (3 : Int)).bind fun (x2, x3, x4) => (FA x4 ([120, 121, 122] : UV)).bind fun (x5, x6, x7) => (E8 x7).bind fun (x8, x9, x10) => (Eo x10).bind fun (x11, x12, x13) => some (((((((((x2.length : Int) == 512) && (x3 == 0)) && (x5 == ([120, 121, 122] : UV))) && (x6 == 0)) && ((x8.length : Int) == 509)) && (x9 == 0)) && ((x11.length : Int) == 1024)) && (x12 == 0))
theorem Ep {q0} (M : Cl = some q0) (A : HH g h [] F) (hc : A9 (cfg.still 12) av = [] := by kernel_rfl) : ∃ v Q, BB cfg g h 12 av v Q ∧ v = .bool q0 ∧ HH g Q [] F := by
 refine Dj 67 [.tmp 0] hc ?_
 clear hc
 unfold Cl at M
 refine bg 67 [] fun D H => ?_
 refine AF 1 (Be 1 [] 2 H fun D H => ?_)
 obtain ⟨x1w1, X, M⟩ := bind_some M
 obtain ⟨v1, h1, R, bx1w1, rfl, E⟩ := PG (av := []) X (A.cut 0)
 replace A := A.YV E
 refine A0 10 R H fun D t H => ?_
 refine AL 1 [(1, .ptr (some (bx1w1, 0)))] H fun D H => AN (AF 2 (AL 2 [(12, .bool false)] H fun D H => Wt (x := .tmp 12) (by kernel_rfl) H (fun D => by kernel_rfl) ?_))
 refine Bs 8 id ?_
 obtain ⟨⟨x2, x3, x4⟩, X, M⟩ := bind_some M
 obtain ⟨v1, h2, R, rfl, E⟩ := JR (av := [.ptr (some (bx1w1, 0)), .agg [.str ([97] : UV), .str ([] : UV), Ab 48, Ai 0, Ai 0, Ai 0, .str ([] : UV), .str ([] : UV), Ai 0, Ai 0, Ai 0, Ai 0, .slice none 0, .str ([] : UV)], Ai 3]) X (A.cut 1)
 replace A := A.g11 E
 refine Aq 2 [] 16 R H fun D t H => ?_
 refine Be 5 [(2, .str x2), (3, Ai x3)] 7 H fun D H => ?_
 obtain ⟨⟨x5, x6, x7⟩, X, M⟩ := bind_some M
 obtain ⟨v1, h3, R, rfl, E⟩ := Jq (av := [.ptr (some (bx1w1, 0)), .str ([120, 121, 122] : UV)]) X (A.cut 1)
 replace A := A.g11 E
 refine Aq 1 [] 21 R H fun D t H => ?_
 refine Be 5 [(4, .str x5), (5, Ai x6)] 7 H fun D H => ?_
 obtain ⟨⟨x8, x9, x10⟩, X, M⟩ := bind_some M
 obtain ⟨v1, h4, R, rfl, E⟩ := Jy (av := [.ptr (some (bx1w1, 0))]) X (A.cut 1)
 replace A := A.g11 E
 refine Aq 1 [] 26 R H fun D t H => ?_
 refine Be 5 [(6, .str x8), (7, Ai x9)] 7 H fun D H => ?_
 obtain ⟨⟨x11, x12, x13⟩, X, M⟩ := bind_some M
 obtain ⟨v1, h5, R, rfl, E⟩ := JO (av := [.ptr (some (bx1w1, 0))]) X (A.cut 1)
 replace A := A.g11 E
 refine Aq 1 [] 31 R H fun D t H => ?_
 refine Be 5 [(8, .str x11), (9, Ai x12)] 34 H fun D H => AG 4 [(37, .bool ((x2.length : Int) == 512))] H fun D H => Al 3 (fun N Q => h5 = Q ∧ Has N 67 [(4, .str x5), (5, Ai x6), (6, .str x8), (7, Ai x9), (8, .str x11), (9, Ai x12), (40, .bool (((x2.length : Int) == 512) && (x3 == 0)))]) ?_ ?_
 ·cases B : ((x2.length : Int) == 512 : Bool) with
  | true =>
   replace H := H.kn 37 B
   exact AG 3 [(40, .bool (x3 == 0))] H fun D H => Ac H B
  | false =>
   replace H := H.kn 37 B
   exact AG 3 [(40, .bool false)] H fun D H => Ac H B
 intro t D Q hK
 obtain ⟨e, H⟩ := hK
 subst e
 refine AG 1 [(41, .bool (((x2.length : Int) == 512) && (x3 == 0)))] H fun D H => Al 3 (fun N Q => h5 = Q ∧ Has N 67 [(5, Ai x6), (6, .str x8), (7, Ai x9), (8, .str x11), (9, Ai x12), (44, .bool ((((x2.length : Int) == 512) && (x3 == 0)) && (x5 == ([120, 121, 122] : UV))))]) ?_ ?_
 ·cases B : (((x2.length : Int) == 512) && (x3 == 0) : Bool) with
  | true =>
   replace H := H.kn 41 B
   exact AG 3 [(44, .bool (x5 == ([120, 121, 122] : UV)))] H fun D H => Ac H B
  | false =>
   replace H := H.kn 41 B
   exact AG 3 [(44, .bool false)] H fun D H => Ac H B
 intro t D Q hK
 obtain ⟨e, H⟩ := hK
 subst e
 refine AG 1 [(45, .bool ((((x2.length : Int) == 512) && (x3 == 0)) && (x5 == ([120, 121, 122] : UV))))] H fun D H => Al 3 (fun N Q => h5 = Q ∧ Has N 67 [(6, .str x8), (7, Ai x9), (8, .str x11), (9, Ai x12), (48, .bool (((((x2.length : Int) == 512) && (x3 == 0)) && (x5 == ([120, 121, 122] : UV))) && (x6 == 0)))]) ?_ ?_
 ·cases B : ((((x2.length : Int) == 512) && (x3 == 0)) && (x5 == ([120, 121, 122] : UV)) : Bool) with
  | true =>
   replace H := H.kn 45 B
   exact AG 3 [(48, .bool (x6 == 0))] H fun D H => Ac H B
  | false =>
   replace H := H.kn 45 B
   exact AG 3 [(48, .bool false)] H fun D H => Ac H B
 intro t D Q hK
 obtain ⟨e, H⟩ := hK
 subst e
 refine AG 1 [(49, .bool (((((x2.length : Int) == 512) && (x3 == 0)) && (x5 == ([120, 121, 122] : UV))) && (x6 == 0)))] H fun D H => Al 4 (fun N Q => h5 = Q ∧ Has N 67 [(7, Ai x9), (8, .str x11), (9, Ai x12), (53, .bool ((((((x2.length : Int) == 512) && (x3 == 0)) && (x5 == ([120, 121, 122] : UV))) && (x6 == 0)) && ((x8.length : Int) == 509)))]) ?_ ?_
 ·cases B : (((((x2.length : Int) == 512) && (x3 == 0)) && (x5 == ([120, 121, 122] : UV))) && (x6 == 0) : Bool) with
  | true =>
   replace H := H.kn 49 B
   exact AG 4 [(53, .bool ((x8.length : Int) == 509))] H fun D H => Ac H B
  | false =>
   replace H := H.kn 49 B
   exact AG 4 [(53, .bool false)] H fun D H => Ac H B
 intro t D Q hK
 obtain ⟨e, H⟩ := hK
 subst e
 refine AG 1 [(54, .bool ((((((x2.length : Int) == 512) && (x3 == 0)) && (x5 == ([120, 121, 122] : UV))) && (x6 == 0)) && ((x8.length : Int) == 509)))] H fun D H => Al 3 (fun N Q => h5 = Q ∧ Has N 67 [(8, .str x11), (9, Ai x12), (57, .bool (((((((x2.length : Int) == 512) && (x3 == 0)) && (x5 == ([120, 121, 122] : UV))) && (x6 == 0)) && ((x8.length : Int) == 509)) && (x9 == 0)))]) ?_ ?_
 ·cases B : ((((((x2.length : Int) == 512) && (x3 == 0)) && (x5 == ([120, 121, 122] : UV))) && (x6 == 0)) && ((x8.length : Int) == 509) : Bool) with
  | true =>
   replace H := H.kn 54 B
   exact AG 3 [(57, .bool (x9 == 0))] H fun D H => Ac H B
  | false =>
   replace H := H.kn 54 B
   exact AG 3 [(57, .bool false)] H fun D H => Ac H B
 intro t D Q hK
 obtain ⟨e, H⟩ := hK
 subst e
 refine AG 1 [(58, .bool (((((((x2.length : Int) == 512) && (x3 == 0)) && (x5 == ([120, 121, 122] : UV))) && (x6 == 0)) && ((x8.length : Int) == 509)) && (x9 == 0)))] H fun D H => Al 4 (fun N Q => h5 = Q ∧ Has N 67 [(9, Ai x12), (62, .bool ((((((((x2.length : Int) == 512) && (x3 == 0)) && (x5 == ([120, 121, 122] : UV))) && (x6 == 0)) && ((x8.length : Int) == 509)) && (x9 == 0)) && ((x11.length : Int) == 1024)))]) ?_ ?_
 ·cases B : (((((((x2.length : Int) == 512) && (x3 == 0)) && (x5 == ([120, 121, 122] : UV))) && (x6 == 0)) && ((x8.length : Int) == 509)) && (x9 == 0) : Bool) with
  | true =>
   replace H := H.kn 58 B
   exact AG 4 [(62, .bool ((x11.length : Int) == 1024))] H fun D H => Ac H B
  | false =>
   replace H := H.kn 58 B
   exact AG 4 [(62, .bool false)] H fun D H => Ac H B
 intro t D Q hK
 obtain ⟨e, H⟩ := hK
 subst e
 refine AG 1 [(63, .bool ((((((((x2.length : Int) == 512) && (x3 == 0)) && (x5 == ([120, 121, 122] : UV))) && (x6 == 0)) && ((x8.length : Int) == 509)) && (x9 == 0)) && ((x11.length : Int) == 1024)))] H fun D H => Al 3 (fun N Q => h5 = Q ∧ Has N 67 [(66, .bool (((((((((x2.length : Int) == 512) && (x3 == 0)) && (x5 == ([120, 121, 122] : UV))) && (x6 == 0)) && ((x8.length : Int) == 509)) && (x9 == 0)) && ((x11.length : Int) == 1024)) && (x12 == 0)))]) ?_ ?_
 ·cases B : ((((((((x2.length : Int) == 512) && (x3 == 0)) && (x5 == ([120, 121, 122] : UV))) && (x6 == 0)) && ((x8.length : Int) == 509)) && (x9 == 0)) && ((x11.length : Int) == 1024) : Bool) with
  | true =>
   replace H := H.kn 63 B
   exact AG 3 [(66, .bool (x12 == 0))] H fun D H => Ac H B
  | false =>
   replace H := H.kn 63 B
   exact AG 3 [(66, .bool false)] H fun D H => Ac H B
 intro t D Q hK
 obtain ⟨e, H⟩ := hK
 subst e
 refine AL 1 [(0, .bool (((((((((x2.length : Int) == 512) && (x3 == 0)) && (x5 == ([120, 121, 122] : UV))) && (x6 == 0)) && ((x8.length : Int) == 509)) && (x9 == 0)) && ((x11.length : Int) == 1024)) && (x12 == 0)))] H fun D H => AQ ?_
 obtain rfl := Ad M
 refine ⟨.inl rfl, .bool (((((((((x2.length : Int) == 512) && (x3 == 0)) && (x5 == ([120, 121, 122] : UV))) && (x6 == 0)) && ((x8.length : Int) == 509)) && (x9 == 0)) && ((x11.length : Int) == 1024)) && (x12 == 0)), rH H, ?_⟩
 replace A := A.d0
 exact ⟨rfl, A⟩
end
end Go.Av.L
