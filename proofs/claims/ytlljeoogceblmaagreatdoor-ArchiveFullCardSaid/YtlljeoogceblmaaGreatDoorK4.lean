/-
 A part.
-/
import Derived.Test.YtlljeoogceblmaaGreatDoorKCfg
import Derived.Test.YtlljeoogceblmaaGreatDoorK0
import Derived.Test.YtlljeoogceblmaaGreatDoorK1
import Derived.Test.YtlljeoogceblmaaGreatDoorK2
namespace Go.Av.L
open Go.Av Go.Lib
open IntKind (i64 u8)
set_option maxRecDepth 10000
set_option linter.unusedVariables false
set_option linter.unusedSimpArgs false
variable {g : Gd} {h : AF} {F : List Ck} {av : List AB}
noncomputable section
def ID (p0 : List UInt8) (s : Int × Int × Bool × Int) : Option ((Int × Int × Bool × Int) ⊕ ((Int × Bool) ⊕ (Int × Int))) :=
 match s with
 | (x1, x2, x3, x4) => Ao (decide (x4 < (p0.length : Int))) (((U9 p0 x4).bind fun x14 => Ao (((decide (x14 ≥ 48)) && (decide (x14 ≤ 55))) && (x1 != 2)) (Ao (decide ((YY .i64 (OI .i64 x2 (3 : Int)) (i64.wrap (u8.wrap (x14 - 48)))) > 9007199254740991)) (some (.inl ((1 : Int), (0 : Int), true))) (some (.inl ((1 : Int), YY .i64 (OI .i64 x2 (3 : Int)) (i64.wrap (u8.wrap (x14 - 48))), x3)))) (Ao ((x14 == 32) && (x1 == 0)) (some (.inl (x1, x2, x3))) (Ao ((x14 == 32) || (x14 == 0)) (some (.inl ((2 : Int), x2, x3))) (some (.inr ((0 : Int), (2 : Int)))))) : Option ((Int × Int × Bool) ⊕ (Int × Int))).bind fun o2 => (match o2 with | .inl (x9, x10, x11) => some (.inl (x9, x10, x11, i64.wrap (x4 + 1))) | .inr (x12, x13) => some (.inr (.inr (x12, x13))))) (some (.inr (.inl (x2, x3))))
def Hb (p0 : List UInt8) : Option (Int × Int) :=
 (loop (ID p0) ((0 : Int), (0 : Int), false, (0 : Int))).bind fun o1 => (match o1 with | .inl (x5, x6) => Ao x6 (some ((0 : Int), (6 : Int))) (some (x5, (0 : Int))) | .inr (x7, x8) => some (x7, x8))
theorem M3 {p0 q0 q1} (M : Hb p0 = some (q0, q1)) (A : HH g h [] F) (hc : BP (cfg.still 192) av = [.str p0] := by kernel_rfl) : ∃ v Q, BZ cfg g h 192 av v Q ∧ v = .tuple [Ai q0, Ai q1] ∧ HH g Q [] F := by
 refine EE 53 [.tmp 2, .tmp 3] hc ?_
 clear hc
 unfold Hb at M
 refine bg 53 [(0, .str p0)] fun D H => ?_
 refine AH 2 (AN 2 [] H fun D H => Lv (by kernel_rfl) ?_)
 refine AH 2 (B5 2 [(4, Ai 0), (5, Ai 0)] 1 H fun D H => AN 1 [(6, .bool false)] H fun D H => AS (LY (by kernel_rfl) ?_))
 show AW _ _ _ _ _ _ _
 refine AS (AH 3 (AN 3 [(10, Ai (p0.length : Int)), (11, Ai 0)] H fun D H => Aa (id := 0) (by kernel_rfl) ?_))
 obtain ⟨o1, O, M⟩ := bind_some M
 refine Bb (Q' := fun e N Q => (∃ x5 x6, e = .exit 0 ∧ .inl (x5, x6) = o1 ∧ Has N 53 [(5, Ai x5), (6, .bool x6)] ∧ HH g Q [] F) ∨ (∃ x7 x8, e = .ret ∧ .inr (x7, x8) = o1 ∧ Has N 53 [(2, Ai x7), (3, Ai x8)] ∧ HH g Q [] F) ∨ False) ?_ ?_
 ·refine C2 (by kernel_rfl) (fun (s : Int × Int × Bool × Int) N Q => ∃ x1 x2 x3 x4, (x1, x2, x3, x4) = s ∧ Has N 53 [(0, .str p0), (4, Ai x1), (5, Ai x2), (6, .bool x3), (10, Ai (p0.length : Int)), (11, Ai x4)] ∧ HH g Q [] F) O ⟨_, _, _, _, rfl, H.ls, A⟩ ?_
  clear O M H A
  intro s q D h1 V M
  obtain ⟨x1, x2, x3, x4, rfl, H, A⟩ := V
  unfold ID at M
  refine AH 1 (AN 1 [(12, .bool (decide (x4 < (p0.length : Int))))] H fun D H => AS (Ac 12 H M (fun B M H => ?_) fun B M H => ?_))
  ·refine CT id (AS ?_)
   obtain ⟨o2, O, M⟩ := bind_some M
   refine Bb (Q' := fun e N Q => (∃ x9 x10 x11, e = .normal ∧ .inl (x9, x10, x11) = o2 ∧ Has N 53 [(0, .str p0), (4, Ai x9), (5, Ai x10), (6, .bool x11), (10, Ai (p0.length : Int)), (11, Ai x4)] ∧ HH g Q [] F) ∨ (∃ x12 x13, e = .ret ∧ .inr (x12, x13) = o2 ∧ Has N 53 [(2, Ai x12), (3, Ai x13)] ∧ HH g Q [] F) ∨ False) ?_ ?_
   ·replace M := O
    clear O
    refine Aa (id := 1) (by kernel_rfl) ?_
    refine AH 2 (B5 2 [(7, Ai x4)] 4 H fun D H => ?_)
    obtain ⟨x14, X, M⟩ := bind_some M
    refine B0 2 [] 16 (Ab x14) h1 H (fun D => .of (Mf (by kernel_rfl) X)) fun D t H => ?_
    refine AN 1 [(8, Ab x14)] H fun D H => AS (Aa (id := 2) (by kernel_rfl) ?_)
    refine AH 11 (AO 3 [(20, .bool (decide (x14 ≥ 48)))] H fun D H => Bi 3 (fun N Q => h1 = Q ∧ Has N 53 [(0, .str p0), (4, Ai x1), (5, Ai x2), (6, .bool x3), (8, Ab x14), (10, Ai (p0.length : Int)), (11, Ai x4), (23, .bool ((decide (x14 ≥ 48)) && (decide (x14 ≤ 55))))]) ?_ ?_)
    ·cases B : (decide (x14 ≥ 48) : Bool) with
     | true =>
      replace H := H.kn 20 B
      exact AO 3 [(23, .bool (decide (x14 ≤ 55)))] H fun D H => A8 H B
     | false =>
      replace H := H.kn 20 B
      exact AO 3 [(23, .bool false)] H fun D H => A8 H B
    intro t D Q C
    obtain ⟨e, H⟩ := C
    subst e
    refine AO 1 [(24, .bool ((decide (x14 ≥ 48)) && (decide (x14 ≤ 55))))] H fun D H => Bi 3 (fun N Q => h1 = Q ∧ Has N 53 [(0, .str p0), (4, Ai x1), (5, Ai x2), (6, .bool x3), (8, Ab x14), (10, Ai (p0.length : Int)), (11, Ai x4), (27, .bool (((decide (x14 ≥ 48)) && (decide (x14 ≤ 55))) && (x1 != 2)))]) ?_ ?_
    ·cases B : ((decide (x14 ≥ 48)) && (decide (x14 ≤ 55)) : Bool) with
     | true =>
      replace H := H.kn 24 B
      exact AO 3 [(27, .bool (x1 != 2))] H fun D H => A8 H B
     | false =>
      replace H := H.kn 24 B
      exact AO 3 [(27, .bool false)] H fun D H => A8 H B
    intro t D Q C
    obtain ⟨e, H⟩ := C
    subst e
    refine AN 1 [(17, .bool (((decide (x14 ≥ 48)) && (decide (x14 ≤ 55))) && (x1 != 2)))] H fun D H => Ac 17 H M (fun B M H => ?_) fun B M H => ?_
    ·refine AH 1 (Bv 1 [(0, .str p0), (4, Ai 1), (5, Ai x2), (6, .bool x3), (8, Ab x14), (10, Ai (p0.length : Int)), (11, Ai x4)] H fun D H => Bq id (AS (AH 7 (Bv 7 [(0, .str p0), (4, Ai 1), (5, Ai (YY .i64 (OI .i64 x2 (3 : Int)) (i64.wrap (u8.wrap (x14 - 48))))), (6, .bool x3), (10, Ai (p0.length : Int)), (11, Ai x4)] H fun D H => Bs 2 id (AN 2 [(35, .bool (decide ((YY .i64 (OI .i64 x2 (3 : Int)) (i64.wrap (u8.wrap (x14 - 48)))) > 9007199254740991)))] H fun D H => Ac 35 H M (fun B M H => ?_) fun B M H => ?_)))))
     ·refine CE 2 (Bv 2 [(0, .str p0), (4, Ai 1), (5, Ai 0), (6, .bool true), (10, Ai (p0.length : Int)), (11, Ai x4)] H fun D H => Bq id (Bp (i := 1) (by kernel_rfl) ?_))
      exact .inl ⟨_, _, _, rfl, BB M, H.ls, A⟩
     refine CT id (Bp (i := 1) (by kernel_rfl) ?_)
     exact .inl ⟨_, _, _, rfl, BB M, H.ls, A⟩
    refine AH 7 (AO 3 [(39, .bool (x14 == 32))] H fun D H => Bi 3 (fun N Q => h1 = Q ∧ Has N 53 [(0, .str p0), (4, Ai x1), (5, Ai x2), (6, .bool x3), (8, Ab x14), (10, Ai (p0.length : Int)), (11, Ai x4), (42, .bool ((x14 == 32) && (x1 == 0)))]) ?_ ?_)
    ·cases B : (x14 == 32 : Bool) with
     | true =>
      replace H := H.kn 39 B
      exact AO 3 [(42, .bool (x1 == 0))] H fun D H => A8 H B
     | false =>
      replace H := H.kn 39 B
      exact AO 3 [(42, .bool false)] H fun D H => A8 H B
    intro t D Q C
    obtain ⟨e, H⟩ := C
    subst e
    refine AN 1 [(36, .bool ((x14 == 32) && (x1 == 0)))] H fun D H => Ac 36 H M (fun B M H => ?_) fun B M H => ?_
    ·refine Bp (i := 1) (by kernel_rfl) ?_
     exact .inl ⟨_, _, _, rfl, BB M, H.ls, A⟩
    refine AH 7 (AO 3 [(46, .bool (x14 == 32))] H fun D H => Bi 3 (fun N Q => h1 = Q ∧ Has N 53 [(0, .str p0), (5, Ai x2), (6, .bool x3), (10, Ai (p0.length : Int)), (11, Ai x4), (49, .bool ((x14 == 32) || (x14 == 0)))]) ?_ ?_)
    ·cases B : (x14 == 32 : Bool) with
     | true =>
      replace H := H.kn 46 B
      exact AO 3 [(49, .bool true)] H fun D H => A8 H B
     | false =>
      replace H := H.kn 46 B
      exact AO 3 [(49, .bool (x14 == 0))] H fun D H => A8 H B
    intro t D Q C
    obtain ⟨e, H⟩ := C
    subst e
    refine AN 1 [(43, .bool ((x14 == 32) || (x14 == 0)))] H fun D H => Ac 43 H M (fun B M H => ?_) fun B M H => ?_
    ·refine AH 1 (AN 1 [(4, Ai 2)] H fun D H => Bp (i := 1) (by kernel_rfl) ?_)
     exact .inl ⟨_, _, _, rfl, BB M, H.ls, A⟩
    refine B3 2 id (AN 2 [(2, Ai 0), (3, Ai 2)] H fun D H => AZ ?_)
    exact .inr (.inl ⟨_, _, rfl, BB M, H.ls, A⟩)
   clear O
   clear A
   intro e D h2 P
   rcases P with ⟨x9, x10, x11, rfl, rfl, H, A⟩ | ⟨x12, x13, rfl, rfl, H, A⟩ | S
   ·show AW _ _ _ _ _ _ _
    refine CE 2 (Bv 2 [(0, .str p0), (4, Ai x9), (5, Ai x10), (6, .bool x11), (10, Ai (p0.length : Int)), (11, Ai (i64.wrap (x4 + 1)))] H fun D H => at_nil ?_)
    exact nx M ⟨_, _, _, _, rfl, H.ls, A⟩
   ·exact nr M fun e => Or.inr (.inl ⟨_, _, rfl, e, H.ls, A⟩)
   exact S.elim
  refine Bp (i := 0) (by kernel_rfl) ?_
  exact nr M fun e => .inl ⟨_, _, rfl, e, H.ls, A⟩
 clear O
 clear A
 intro e D G P
 rcases P with ⟨x5, x6, rfl, rfl, H, A⟩ | ⟨x7, x8, rfl, rfl, H, A⟩ | S
 ·show AW _ _ _ _ _ _ _
  refine AS (AH 1 (AN 1 [(51, .bool x6)] H fun D H => Ac 51 H M (fun B M H => ?_) fun B M H => ?_))
  ·refine AH 2 (AN 2 [(2, Ai 0), (3, Ai 6)] H fun D H => AZ ?_)
   obtain ⟨rfl, rfl⟩ := B4 M
   exact ⟨.inl rfl, _, rH H, rfl, A⟩
  refine B3 3 id (AN 3 [(2, Ai x5), (3, Ai 0)] H fun D H => AZ ?_)
  obtain ⟨rfl, rfl⟩ := B4 M
  exact ⟨.inl rfl, _, rH H, rfl, A⟩
 ·obtain ⟨rfl, rfl⟩ := B4 M
  exact ⟨.inl rfl, _, rH H, rfl, A⟩
 exact S.elim
def CH (p0 : List UInt8) : Option (Int × Int) :=
 (Gk (p0.length : Int)).bind fun x1 => Ao (!x1) (some ((0 : Int), (1 : Int))) ((U9 p0 (0 : Int)).bind fun x2 => (Ao (x2 == 128) (some true) ((U9 p0 (0 : Int)).bind fun x4 => some (x4 == 255)) : Option (Bool)).bind fun x3 => Ao x3 (none) ((Hb p0).bind fun (x5, x6) => some (x5, x6)))
theorem CL {p0 q0 q1} (M : CH p0 = some (q0, q1)) (A : HH g h [] F) (hc : BP (cfg.still 138) av = [.str p0] := by kernel_rfl) : ∃ v Q, BZ cfg g h 138 av v Q ∧ v = .tuple [Ai q0, Ai q1] ∧ HH g Q [] F := by
 refine EE 26 [.tmp 2, .tmp 3] hc ?_
 clear hc
 unfold CH at M
 refine bg 26 [(0, .str p0)] fun D H => ?_
 refine AH 2 (AN 2 [] H fun D H => AS (Aa (id := 0) (by kernel_rfl) ?_))
 refine AH 5 ?_
 obtain ⟨x1, X, M⟩ := bind_some M
 obtain ⟨v1, h1, R, rfl, E⟩ := Lm (av := [Ai (p0.length : Int)]) X (A.cut 0)
 replace A := A.Dx E
 refine BC 2 [] 7 R H fun D t H => ?_
 refine AN 2 [(4, .bool (!x1))] H fun D H => Ac 4 H M (fun B M H => ?_) fun B M H => ?_
 ·refine AH 2 (AN 2 [(2, Ai 0), (3, Ai 1)] H fun D H => AZ ?_)
  obtain ⟨rfl, rfl⟩ := B4 M
  exact ⟨.inl rfl, _, rH H, rfl, A⟩
 refine AH 9 ?_
 obtain ⟨x2, X, M⟩ := bind_some M
 refine B0 1 [] 11 (Ab x2) h1 H (fun D => .of (Mf (by kernel_rfl) X)) fun D t H => ?_
 refine AO 2 [(13, .bool (x2 == 128))] H fun D H => ?_
 obtain ⟨x3, O, M⟩ := bind_some M
 refine Bi 4 (fun N Q => Has N 26 [(0, .str p0), (17, .bool x3)] ∧ HH g Q [] F) ?_ ?_
 ·rcases BT O with ⟨B, M⟩ | ⟨B, M⟩
  ·replace H := H.kn 13 B
   refine AO 4 [(17, .bool true)] H fun D H => ?_
   obtain rfl := BB M
   exact at_nil ⟨H.ls, A⟩
  replace H := H.kn 13 B
  obtain ⟨x4, X, M⟩ := bind_some M
  refine B0 1 [] 15 (Ab x4) h1 H (fun D => .of (Mf (by kernel_rfl) X)) fun D t H => ?_
  refine AO 2 [(17, .bool (x4 == 255))] H fun D H => ?_
  obtain rfl := BB M
  exact at_nil ⟨H.ls, A⟩
 clear A
 intro t D h2 C
 obtain ⟨H, A⟩ := C
 refine AN 1 [(9, .bool x3)] H fun D H => Ac 9 H M (fun B M H => ?_) fun B M H => ?_
 ·refine AH 6 ?_
  cases M
 refine B3 6 id ?_
 obtain ⟨⟨x5, x6⟩, X, M⟩ := bind_some M
 obtain ⟨v1, G, R, rfl, E⟩ := M3 (av := [.str p0]) X (A.cut 0)
 replace A := A.Dx E
 refine BC 1 [] 23 R H fun D t H => ?_
 refine AN 4 [(2, Ai x5), (3, Ai x6)] H fun D H => AZ ?_
 obtain ⟨rfl, rfl⟩ := B4 M
 exact ⟨.inl rfl, _, rH H, rfl, A⟩
def JV (x4 : Int) (x6 : Rm) (s : Int) : Option ((Int) ⊕ ((Unit) ⊕ (Bool))) :=
 match s with
 | x7 => Ao (decide (x7 < 2)) ((Ii ([x6.w0, x6.w1] : List Int) x7).bind fun x9 => Ao (x4 == x9) (some (.inr (.inr true))) (some (.inl (i64.wrap (x7 + 1))))) (some (.inr (.inl ())))
def JA (p0 : List UInt8) : Option (Bool) :=
 (Ao ((p0.length : Int) != 512) (some true) ((U9 p0 (148 : Int)).bind fun x2 => some (decide (x2 ≥ 128))) : Option (Bool)).bind fun x1 => Ao x1 (some false) ((IX p0 (some (148 : Int)) (some (156 : Int))).bind fun x3 => (CH x3).bind fun (x4, x5) => Ao (x5 != 0) (some false) ((H5 p0).bind fun x6 => (loop (JV x4 x6) (0 : Int)).bind fun o1 => (match o1 with | .inl _ => some false | .inr x8 => some x8)))
theorem OZ {p0 q0} (M : JA p0 = some q0) (A : HH g h [] F) (hc : BP (cfg.still 76) av = [.str p0] := by kernel_rfl) : ∃ v Q, BZ cfg g h 76 av v Q ∧ v = .bool q0 ∧ HH g Q [] F := by
 refine EE 32 [.tmp 2] hc ?_
 clear hc
 unfold JA at M
 refine bg 32 [(0, .str p0)] fun D H => ?_
 refine AH 1 (AN 1 [] H fun D H => AS (AH 8 (AO 4 [(10, .bool ((p0.length : Int) != 512))] H fun D H => ?_)))
 obtain ⟨x1, O, M⟩ := bind_some M
 refine Bi 4 (fun N Q => Has N 32 [(0, .str p0), (14, .bool x1)] ∧ HH g Q [] F) ?_ ?_
 ·rcases BT O with ⟨B, M⟩ | ⟨B, M⟩
  ·replace H := H.kn 10 B
   refine AO 4 [(14, .bool true)] H fun D H => ?_
   obtain rfl := BB M
   exact at_nil ⟨H.ls, A⟩
  replace H := H.kn 10 B
  obtain ⟨x2, X, M⟩ := bind_some M
  refine B0 1 [] 12 (Ab x2) h H (fun D => .of (Mf (by kernel_rfl) X)) fun D t H => ?_
  refine AO 2 [(14, .bool (decide (x2 ≥ 128)))] H fun D H => ?_
  obtain rfl := BB M
  exact at_nil ⟨H.ls, A⟩
 clear A
 intro t D h1 C
 obtain ⟨H, A⟩ := C
 refine Bq id (Ac 14 H M (fun B M H => ?_) fun B M H => ?_)
 ·refine AH 1 (AN 1 [(2, .bool false)] H fun D H => AZ ?_)
  obtain rfl := BB M
  exact ⟨.inl rfl, _, rH H, rfl, A⟩
 refine B3 8 id ?_
 obtain ⟨x3, X, M⟩ := bind_some M
 refine B0 1 [] 17 (.str x3) h1 H (fun D => .of (HW (k := .i64) (k' := .i64) (lo := (some (148 : Int))) (hi := (some (156 : Int))) (by kernel_rfl) X)) fun D t H => ?_
 obtain ⟨⟨x4, x5⟩, X, M⟩ := bind_some M
 obtain ⟨v1, h2, R, rfl, E⟩ := CL (av := [.str x3]) X (A.cut 0)
 replace A := A.Dx E
 refine BM 18 R H fun D t H => ?_
 refine AN 5 [(3, Ai x4), (4, Ai x5)] H fun D H => AS (AH 2 (AN 2 [(22, .bool (x5 != 0))] H fun D H => Ac 22 H M (fun B M H => ?_) fun B M H => ?_))
 ·refine AH 1 (AN 1 [(2, .bool false)] H fun D H => AZ ?_)
  obtain rfl := BB M
  exact ⟨.inl rfl, _, rH H, rfl, A⟩
 refine CT id (AS (AH 3 ?_))
 obtain ⟨x6, X, M⟩ := bind_some M
 obtain ⟨v1, G, R, rfl, E⟩ := Ls (av := [.str p0]) X (A.cut 0)
 replace A := A.Dx E
 refine BC 1 [] 24 R H fun D t H => ?_
 refine AN 1 [(25, Ai 0)] H fun D H => Aa (id := 0) (by kernel_rfl) ?_
 obtain ⟨o1, O, M⟩ := bind_some M
 refine Bb (Q' := fun e N Q => (e = .exit 0 ∧ .inl () = o1 ∧ Has N 32 [] ∧ HH g Q [] F) ∨ (∃ x8, e = .ret ∧ .inr x8 = o1 ∧ Has N 32 [(2, .bool x8)] ∧ HH g Q [] F) ∨ False) ?_ ?_
 ·refine C2 (by kernel_rfl) (fun (s : Int) N Q => ∃ x7, x7 = s ∧ Has N 32 [(3, Ai x4), (24, .agg [Ai x6.w0, Ai x6.w1]), (25, Ai x7)] ∧ HH g Q [] F) O ⟨_, rfl, H.ls, A⟩ ?_
  clear O M H A
  intro s q D U V M
  obtain ⟨x7, rfl, H, A⟩ := V
  unfold JV at M
  refine AH 1 (AN 1 [(26, .bool (decide (x7 < 2)))] H fun D H => AS (Ac 26 H M (fun B M H => ?_) fun B M H => ?_))
  ·refine CT id (AS (Aa (id := 1) (by kernel_rfl) ?_))
   refine AH 2 ?_
   obtain ⟨x9, I, M⟩ := bind_some M
   refine Ae 27 (Ai x9) U H (fun D => .of (Rw (fun w : Int => Ai w) [x6.w0, x6.w1] (by kernel_rfl) rfl rfl I)) fun D t H => ?_
   refine B5 1 [(6, Ai x9)] 3 H fun D H => AN 3 [(30, .bool (x4 == x9))] H fun D H => Ac 30 H M (fun B M H => ?_) fun B M H => ?_
   ·refine AH 1 (AN 1 [(2, .bool true)] H fun D H => AZ ?_)
    exact nr M fun e => Or.inr (.inl ⟨_, rfl, e, H.ls, A⟩)
   refine EX 2 id (Bv 2 [(3, Ai x4), (24, .agg [Ai x6.w0, Ai x6.w1]), (25, Ai (i64.wrap (x7 + 1)))] H fun D H => at_nil ?_)
   exact nx M ⟨_, rfl, H.ls, A⟩
  refine Bp (i := 0) (by kernel_rfl) ?_
  exact nr M fun e => .inl ⟨rfl, e, H.ls, A⟩
 clear O
 clear A
 intro e D T P
 rcases P with ⟨rfl, rfl, H, A⟩ | ⟨x8, rfl, rfl, H, A⟩ | S
 ·show AW _ _ _ _ _ _ _
  refine AH 1 (AN 1 [(2, .bool false)] H fun D H => AZ ?_)
  obtain rfl := BB M
  exact ⟨.inl rfl, _, rH H, rfl, A⟩
 ·obtain rfl := BB M
  exact ⟨.inl rfl, _, rH H, rfl, A⟩
 exact S.elim
def IV (p0 : List UInt8) : Option (Int) :=
 Ao (p0 == ([117, 115, 116, 97, 114, 0, 48, 48] : UV)) (some (2 : Int)) (Ao (p0 == ([117, 115, 116, 97, 114, 32, 32, 0] : UV)) (some (3 : Int)) (Ao (p0 == ([0, 0, 0, 0, 0, 0, 0, 0] : UV)) (some (1 : Int)) (some (0 : Int))))
theorem Nh {p0 q0} (M : IV p0 = some q0) (A : HH g h [] F) (hc : BP (cfg.still 77) av = [.str p0] := by kernel_rfl) : ∃ v Q, BZ cfg g h 77 av v Q ∧ v = Ai q0 ∧ HH g Q [] F := by
 refine EE 10 [.tmp 2] hc ?_
 clear hc
 unfold IV at M
 refine bg 10 [(0, .str p0)] fun D H => ?_
 refine AH 1 (AN 1 [] H fun D H => AS (AH 1 (AN 1 [(3, .str p0)] H fun D H => Aa (id := 0) (by kernel_rfl) ?_)))
 refine AH 2 (AN 2 [(4, .bool (p0 == ([117, 115, 116, 97, 114, 0, 48, 48] : UV)))] H fun D H => Ac 4 H M (fun B M H => ?_) fun B M H => ?_)
 ·refine AH 1 (AN 1 [(2, Ai 2)] H fun D H => AZ ?_)
  obtain rfl := BB M
  exact ⟨.inl rfl, _, rH H, rfl, A⟩
 refine AH 2 (AN 2 [(6, .bool (p0 == ([117, 115, 116, 97, 114, 32, 32, 0] : UV)))] H fun D H => Ac 6 H M (fun B M H => ?_) fun B M H => ?_)
 ·refine AH 1 (AN 1 [(2, Ai 3)] H fun D H => AZ ?_)
  obtain rfl := BB M
  exact ⟨.inl rfl, _, rH H, rfl, A⟩
 refine AH 2 (AN 2 [(8, .bool (p0 == ([0, 0, 0, 0, 0, 0, 0, 0] : UV)))] H fun D H => Ac 8 H M (fun B M H => ?_) fun B M H => ?_)
 ·refine AH 1 (AN 1 [(2, Ai 1)] H fun D H => AZ ?_)
  obtain rfl := BB M
  exact ⟨.inl rfl, _, rH H, rfl, A⟩
 refine B3 1 id (AN 1 [(2, Ai 0)] H fun D H => AZ ?_)
 obtain rfl := BB M
 exact ⟨.inl rfl, _, rH H, rfl, A⟩
def Bf (p0 : List UInt8) (p1 : Int) : Option ((List UInt8)) :=
 (DF).bind fun x1 => (Ii ([x1.w0, x1.w1, x1.w2, x1.w3, x1.w4, x1.w5, x1.w6, x1.w7, x1.w8, x1.w9, x1.SR, x1.Sj] : List Ay) p1).bind fun x2 => (IX p0 (some x2.from_) (some (i64.wrap (x2.from_ + x2.Ar)))).bind fun x3 => some x3
theorem Bd {p0 p1 q0} (M : Bf p0 p1 = some q0) (A : HH g h [] F) (hc : BP (cfg.still 79) av = [.str p0, Ai p1] := by kernel_rfl) : ∃ v Q, BZ cfg g h 79 av v Q ∧ v = .str q0 ∧ HH g Q [] F := by
 refine EE 18 [.tmp 4] hc ?_
 clear hc
 unfold Bf at M
 refine bg 18 [(0, .str p0), (1, Ai p1)] fun D H => ?_
 refine AH 1 (B5 1 [] 5 H fun D H => ?_)
 obtain ⟨x1, X, M⟩ := bind_some M
 obtain ⟨v1, h1, R, rfl, E⟩ := Dk (av := []) X (A.cut 0)
 replace A := A.Dx E
 refine BM 6 R H fun D t H => ?_
 obtain ⟨x2, I, M⟩ := bind_some M
 refine B0 1 [] 8 (.agg [Ai x2.from_, Ai x2.Ar]) h1 H (fun D => .of (KW (e := DQ) (x := x2) DO [x1.w0, x1.w1, x1.w2, x1.w3, x1.w4, x1.w5, x1.w6, x1.w7, x1.w8, x1.w9, x1.SR, x1.Sj] (by kernel_rfl) rfl rfl I)) fun D t H => ?_
 obtain ⟨h2, e1, A⟩ := A.pu (.cells none 2 [Ai 0, Ai 0])
 refine BU 5 (.ptr (some (h1.size, 0))) e1 H fun D t H => ?_
 obtain ⟨G, X, A⟩ := A.s0 0 [Ai x2.from_, Ai x2.Ar] [_, _]
 refine C9 X H fun D t H => ?_
 refine Bs 10 id (AX 2 [(9, .str p0)] 11 0 0 A H fun D t H => ?_)
 refine AX 1 [] 13 0 0 A H fun D t H => ?_
 refine AX 1 [] 15 0 1 A H fun D t H => ?_
 obtain ⟨x3, X, M⟩ := bind_some M
 refine B0 1 [] 17 (.str x3) G H (fun D => .of (HW (k := .i64) (k' := .i64) (lo := (some x2.from_)) (hi := (some (i64.wrap (x2.from_ + x2.Ar)))) (by kernel_rfl) X)) fun D t H => ?_
 refine AN 1 [(4, .str x3)] H fun D H => AZ ?_
 obtain rfl := BB M
 refine ⟨.inl rfl, .str x3, rH H, ?_⟩
 replace A := A.d0
 exact ⟨rfl, A⟩
def EN (p0 : List UInt8) (p2_0 : AL) : Option (Int × AL) :=
 (Bf p0 (1 : Int)).bind fun x1 => (CH x1).bind fun (x2, x3) => Ao (x3 != 0) (some (x3, p2_0)) (Ao ((decide (x2 < 0)) || false) (some ((6 : Int), p2_0)) ((Bf p0 (2 : Int)).bind fun x4 => (CH x4).bind fun (x5, x6) => Ao (x6 != 0) (some (x6, (⟨p2_0.Name, p2_0.A9, p2_0.Kind, x2, p2_0.Cz, p2_0.Ct, p2_0.Bg, p2_0.Time, p2_0.Ah, p2_0.Aj, p2_0.Au, p2_0.As, p2_0.Form⟩ : AL))) (Ao ((decide (x5 < 0)) || false) (some ((6 : Int), (⟨p2_0.Name, p2_0.A9, p2_0.Kind, x2, p2_0.Cz, p2_0.Ct, p2_0.Bg, p2_0.Time, p2_0.Ah, p2_0.Aj, p2_0.Au, p2_0.As, p2_0.Form⟩ : AL))) ((Bf p0 (3 : Int)).bind fun x7 => (CH x7).bind fun (x8, x9) => Ao (x9 != 0) (some (x9, (⟨p2_0.Name, p2_0.A9, p2_0.Kind, x2, x5, p2_0.Ct, p2_0.Bg, p2_0.Time, p2_0.Ah, p2_0.Aj, p2_0.Au, p2_0.As, p2_0.Form⟩ : AL))) (Ao ((decide (x8 < 0)) || false) (some ((6 : Int), (⟨p2_0.Name, p2_0.A9, p2_0.Kind, x2, x5, p2_0.Ct, p2_0.Bg, p2_0.Time, p2_0.Ah, p2_0.Aj, p2_0.Au, p2_0.As, p2_0.Form⟩ : AL))) ((Bf p0 (4 : Int)).bind fun x10 => (CH x10).bind fun (x11, x12) => Ao (x12 != 0) (some (x12, (⟨p2_0.Name, p2_0.A9, p2_0.Kind, x2, x5, x8, p2_0.Bg, p2_0.Time, p2_0.Ah, p2_0.Aj, p2_0.Au, p2_0.As, p2_0.Form⟩ : AL))) (Ao ((decide (x11 < 0)) || false) (some ((6 : Int), (⟨p2_0.Name, p2_0.A9, p2_0.Kind, x2, x5, x8, p2_0.Bg, p2_0.Time, p2_0.Ah, p2_0.Aj, p2_0.Au, p2_0.As, p2_0.Form⟩ : AL))) ((Bf p0 (5 : Int)).bind fun x13 => (CH x13).bind fun (x14, x15) => Ao (x15 != 0) (some (x15, (⟨p2_0.Name, p2_0.A9, p2_0.Kind, x2, x5, x8, x11, p2_0.Time, p2_0.Ah, p2_0.Aj, p2_0.Au, p2_0.As, p2_0.Form⟩ : AL))) (Ao ((decide (x14 < 0)) && false) (some ((6 : Int), (⟨p2_0.Name, p2_0.A9, p2_0.Kind, x2, x5, x8, x11, p2_0.Time, p2_0.Ah, p2_0.Aj, p2_0.Au, p2_0.As, p2_0.Form⟩ : AL))) ((Bf p0 (9 : Int)).bind fun x16 => (CH x16).bind fun (x17, x18) => Ao (x18 != 0) (some (x18, (⟨p2_0.Name, p2_0.A9, p2_0.Kind, x2, x5, x8, x11, x14, p2_0.Ah, p2_0.Aj, p2_0.Au, p2_0.As, p2_0.Form⟩ : AL))) (Ao ((decide (x17 < 0)) || false) (some ((6 : Int), (⟨p2_0.Name, p2_0.A9, p2_0.Kind, x2, x5, x8, x11, x14, p2_0.Ah, p2_0.Aj, p2_0.Au, p2_0.As, p2_0.Form⟩ : AL))) ((Bf p0 (10 : Int)).bind fun x19 => (CH x19).bind fun (x20, x21) => Ao (x21 != 0) (some (x21, (⟨p2_0.Name, p2_0.A9, p2_0.Kind, x2, x5, x8, x11, x14, p2_0.Ah, p2_0.Aj, x17, p2_0.As, p2_0.Form⟩ : AL))) (Ao ((decide (x20 < 0)) || false) (some ((6 : Int), (⟨p2_0.Name, p2_0.A9, p2_0.Kind, x2, x5, x8, x11, x14, p2_0.Ah, p2_0.Aj, x17, p2_0.As, p2_0.Form⟩ : AL))) (some ((0 : Int), (⟨p2_0.Name, p2_0.A9, p2_0.Kind, x2, x5, x8, x11, x14, p2_0.Ah, p2_0.Aj, x17, x20, p2_0.Form⟩ : AL))))))))))))))))
theorem IW {p0 p2_0 bp1 bp2 bp2_0 q0 u2} (M : EN p0 p2_0 = some (q0, u2)) (A : HH g h [.obj bp1 (.cells (some 3) 2 [Ai (1 : Int), Ai (2 : Int), Ai (3 : Int), Ai (4 : Int), Ai (5 : Int), Ai (9 : Int), Ai (10 : Int)]), .obj bp2 (.cells (some 135) 2 [.ptr (some (bp2_0, 3)), .ptr (some (bp2_0, 4)), .ptr (some (bp2_0, 5)), .ptr (some (bp2_0, 6)), .ptr (some (bp2_0, 7)), .ptr (some (bp2_0, 10)), .ptr (some (bp2_0, 11))]), .obj bp2_0 (.cells none 2 (AK p2_0))] F) (hc : BP (cfg.still 80) av = [.str p0, .slice (some (bp1, 0)) 7, .slice (some (bp2, 0)) 7] := by kernel_rfl) : ∃ v Q, BZ cfg g h 80 av v Q ∧ v = Ai q0 ∧ HH g Q [.obj bp1 (.cells (some 3) 2 [Ai (1 : Int), Ai (2 : Int), Ai (3 : Int), Ai (4 : Int), Ai (5 : Int), Ai (9 : Int), Ai (10 : Int)]), .obj bp2 (.cells (some 135) 2 [.ptr (some (bp2_0, 3)), .ptr (some (bp2_0, 4)), .ptr (some (bp2_0, 5)), .ptr (some (bp2_0, 6)), .ptr (some (bp2_0, 7)), .ptr (some (bp2_0, 10)), .ptr (some (bp2_0, 11))]), .obj bp2_0 (.cells none 2 (AK u2))] F := by
 refine EE 43 [.tmp 6] hc ?_
 clear hc
 unfold EN at M
 refine bg 43 [(0, .str p0), (1, .slice (some (bp1, 0)) 7), (2, .slice (some (bp2, 0)) 7)] fun D H => ?_
 refine AH 1 (AN 1 [] H fun D H => AS (AH 3 (AN 3 [(11, .slice (some (bp1, 0)) 7), (12, Ai 7), (13, Ai 0)] H fun D H => Aa (id := 0) (by kernel_rfl) ?_)))
 refine Db (by kernel_rfl) ?_
 refine AH 1 (AN 1 [(14, .bool true)] H fun D H => AS (C8 (x := .tmp 14) (by kernel_rfl) H (fun D => by kernel_rfl) ?_))
 refine CT id (AS (Aa (id := 1) (by kernel_rfl) ?_))
 refine AH 5 (AX 2 [(15, Ai (0 : Int))] 17 0 0 A H fun D t H => ?_)
 refine B5 2 [(7, Ai 0), (8, Ai 1)] 9 H fun D H => ?_
 obtain ⟨x1, X, M⟩ := bind_some M
 obtain ⟨v1, h1, R, rfl, E⟩ := Bd (av := [.str p0, Ai 1]) X (A.cut 0)
 replace A := A.Dx E
 refine BC 2 [] 21 R H fun D t H => ?_
 obtain ⟨⟨x2, x3⟩, X, M⟩ := bind_some M
 obtain ⟨v1, h2, R, rfl, E⟩ := CL (av := [.str x1]) X (A.cut 0)
 replace A := A.Dx E
 refine BM 22 R H fun D t H => ?_
 refine AN 5 [(9, Ai x2), (10, Ai x3)] H fun D H => AS (Aa (id := 2) (by kernel_rfl) ?_)
 refine AH 3 (AN 3 [(25, .bool (x3 != 0))] H fun D H => Ac 25 H M (fun B M H => ?_) fun B M H => ?_)
 ·refine AH 2 (AN 2 [(6, Ai x3)] H fun D H => AZ ?_)
  obtain ⟨rfl, rfl⟩ := B4 M
  exact ⟨.inl rfl, _, rH H, rfl, A⟩
 refine AH 7 (AO 3 [(32, .bool (decide (x2 < 0)))] H fun D H => Bi 3 (fun N Q => h2 = Q ∧ Has N 43 [(0, .str p0), (2, .slice (some (bp2, 0)) 7), (7, Ai 0), (9, Ai x2), (11, .slice (some (bp1, 0)) 7), (12, Ai 7), (13, Ai 0), (35, .bool ((decide (x2 < 0)) || false))]) ?_ ?_)
 ·cases B : (decide (x2 < 0) : Bool) with
  | true =>
   replace H := H.kn 32 B
   exact AO 3 [(35, .bool true)] H fun D H => A8 H B
  | false =>
   replace H := H.kn 32 B
   exact AO 3 [(35, .bool false)] H fun D H => A8 H B
 intro t D Q C
 obtain ⟨e, H⟩ := C
 subst e
 refine AN 1 [(29, .bool ((decide (x2 < 0)) || false))] H fun D H => Ac 29 H M (fun B M H => ?_) fun B M H => ?_
 ·refine AH 1 (AN 1 [(6, Ai 6)] H fun D H => AZ ?_)
  obtain ⟨rfl, rfl⟩ := B4 M
  exact ⟨.inl rfl, _, rH H, rfl, A⟩
 refine EX 7 id (AX 3 [] 39 1 0 A H fun D t H => ?_)
 obtain ⟨G, X, A⟩ := A.s2 3 [Ai x2] [_, _, _, _, _, _, _, _, _, _, _, _, _]
 refine Bu 2 [] X H fun D t H => ?_
 refine ED 2 id (Bv 2 [(0, .str p0), (2, .slice (some (bp2, 0)) 7), (11, .slice (some (bp1, 0)) 7), (12, Ai 7), (13, Ai 1)] H fun D H => Bq id (Db (by kernel_rfl) ?_))
 refine AH 1 (AN 1 [(14, .bool true)] H fun D H => AS (C8 (x := .tmp 14) (by kernel_rfl) H (fun D => by kernel_rfl) ?_))
 refine CT id (AS (Aa (id := 1) (by kernel_rfl) ?_))
 refine AH 5 (AX 2 [(15, Ai (1 : Int))] 17 0 1 A H fun D t H => ?_)
 refine B5 2 [(7, Ai 1), (8, Ai 2)] 9 H fun D H => ?_
 obtain ⟨x4, X, M⟩ := bind_some M
 obtain ⟨v1, U, R, rfl, E⟩ := Bd (av := [.str p0, Ai 2]) X (A.cut 0)
 replace A := A.Dx E
 refine BC 2 [] 21 R H fun D t H => ?_
 obtain ⟨⟨x5, x6⟩, X, M⟩ := bind_some M
 obtain ⟨v1, T, R, rfl, E⟩ := CL (av := [.str x4]) X (A.cut 0)
 replace A := A.Dx E
 refine BM 22 R H fun D t H => ?_
 refine AN 5 [(9, Ai x5), (10, Ai x6)] H fun D H => AS (Aa (id := 2) (by kernel_rfl) ?_)
 refine AH 3 (AN 3 [(25, .bool (x6 != 0))] H fun D H => Ac 25 H M (fun B M H => ?_) fun B M H => ?_)
 ·refine AH 2 (AN 2 [(6, Ai x6)] H fun D H => AZ ?_)
  obtain ⟨rfl, rfl⟩ := B4 M
  exact ⟨.inl rfl, _, rH H, rfl, A⟩
 refine AH 7 (AO 3 [(32, .bool (decide (x5 < 0)))] H fun D H => Bi 3 (fun N Q => T = Q ∧ Has N 43 [(0, .str p0), (2, .slice (some (bp2, 0)) 7), (7, Ai 1), (9, Ai x5), (11, .slice (some (bp1, 0)) 7), (12, Ai 7), (13, Ai 1), (35, .bool ((decide (x5 < 0)) || false))]) ?_ ?_)
 ·cases B : (decide (x5 < 0) : Bool) with
  | true =>
   replace H := H.kn 32 B
   exact AO 3 [(35, .bool true)] H fun D H => A8 H B
  | false =>
   replace H := H.kn 32 B
   exact AO 3 [(35, .bool false)] H fun D H => A8 H B
 intro t D Q C
 obtain ⟨e, H⟩ := C
 subst e
 refine AN 1 [(29, .bool ((decide (x5 < 0)) || false))] H fun D H => Ac 29 H M (fun B M H => ?_) fun B M H => ?_
 ·refine AH 1 (AN 1 [(6, Ai 6)] H fun D H => AZ ?_)
  obtain ⟨rfl, rfl⟩ := B4 M
  exact ⟨.inl rfl, _, rH H, rfl, A⟩
 refine EX 7 id (AX 3 [] 39 1 1 A H fun D t H => ?_)
 obtain ⟨h6, X, A⟩ := A.s2 4 [Ai x5] [_, _, _, _, _, _, _, _, _, _, _, _, _]
 refine Bu 2 [] X H fun D t H => ?_
 refine ED 2 id (Bv 2 [(0, .str p0), (2, .slice (some (bp2, 0)) 7), (11, .slice (some (bp1, 0)) 7), (12, Ai 7), (13, Ai 2)] H fun D H => Bq id (Db (by kernel_rfl) ?_))
 refine AH 1 (AN 1 [(14, .bool true)] H fun D H => AS (C8 (x := .tmp 14) (by kernel_rfl) H (fun D => by kernel_rfl) ?_))
 refine CT id (AS (Aa (id := 1) (by kernel_rfl) ?_))
 refine AH 5 (AX 2 [(15, Ai (2 : Int))] 17 0 2 A H fun D t H => ?_)
 refine B5 2 [(7, Ai 2), (8, Ai 3)] 9 H fun D H => ?_
 obtain ⟨x7, X, M⟩ := bind_some M
 obtain ⟨v1, h7, R, rfl, E⟩ := Bd (av := [.str p0, Ai 3]) X (A.cut 0)
 replace A := A.Dx E
 refine BC 2 [] 21 R H fun D t H => ?_
 obtain ⟨⟨x8, x9⟩, X, M⟩ := bind_some M
 obtain ⟨v1, W, R, rfl, E⟩ := CL (av := [.str x7]) X (A.cut 0)
 replace A := A.Dx E
 refine BM 22 R H fun D t H => ?_
 refine AN 5 [(9, Ai x8), (10, Ai x9)] H fun D H => AS (Aa (id := 2) (by kernel_rfl) ?_)
 refine AH 3 (AN 3 [(25, .bool (x9 != 0))] H fun D H => Ac 25 H M (fun B M H => ?_) fun B M H => ?_)
 ·refine AH 2 (AN 2 [(6, Ai x9)] H fun D H => AZ ?_)
  obtain ⟨rfl, rfl⟩ := B4 M
  exact ⟨.inl rfl, _, rH H, rfl, A⟩
 refine AH 7 (AO 3 [(32, .bool (decide (x8 < 0)))] H fun D H => Bi 3 (fun N Q => W = Q ∧ Has N 43 [(0, .str p0), (2, .slice (some (bp2, 0)) 7), (7, Ai 2), (9, Ai x8), (11, .slice (some (bp1, 0)) 7), (12, Ai 7), (13, Ai 2), (35, .bool ((decide (x8 < 0)) || false))]) ?_ ?_)
 ·cases B : (decide (x8 < 0) : Bool) with
  | true =>
   replace H := H.kn 32 B
   exact AO 3 [(35, .bool true)] H fun D H => A8 H B
  | false =>
   replace H := H.kn 32 B
   exact AO 3 [(35, .bool false)] H fun D H => A8 H B
 intro t D Q C
 obtain ⟨e, H⟩ := C
 subst e
 refine AN 1 [(29, .bool ((decide (x8 < 0)) || false))] H fun D H => Ac 29 H M (fun B M H => ?_) fun B M H => ?_
 ·refine AH 1 (AN 1 [(6, Ai 6)] H fun D H => AZ ?_)
  obtain ⟨rfl, rfl⟩ := B4 M
  exact ⟨.inl rfl, _, rH H, rfl, A⟩
 refine EX 7 id (AX 3 [] 39 1 2 A H fun D t H => ?_)
 obtain ⟨h9, X, A⟩ := A.s2 5 [Ai x8] [_, _, _, _, _, _, _, _, _, _, _, _, _]
 refine Bu 2 [] X H fun D t H => ?_
 refine ED 2 id (Bv 2 [(0, .str p0), (2, .slice (some (bp2, 0)) 7), (11, .slice (some (bp1, 0)) 7), (12, Ai 7), (13, Ai 3)] H fun D H => Bq id (Db (by kernel_rfl) ?_))
 refine AH 1 (AN 1 [(14, .bool true)] H fun D H => AS (C8 (x := .tmp 14) (by kernel_rfl) H (fun D => by kernel_rfl) ?_))
 refine CT id (AS (Aa (id := 1) (by kernel_rfl) ?_))
 refine AH 5 (AX 2 [(15, Ai (3 : Int))] 17 0 3 A H fun D t H => ?_)
 refine B5 2 [(7, Ai 3), (8, Ai 4)] 9 H fun D H => ?_
 obtain ⟨x10, X, M⟩ := bind_some M
 obtain ⟨v1, h10, R, rfl, E⟩ := Bd (av := [.str p0, Ai 4]) X (A.cut 0)
 replace A := A.Dx E
 refine BC 2 [] 21 R H fun D t H => ?_
 obtain ⟨⟨x11, x12⟩, X, M⟩ := bind_some M
 obtain ⟨v1, K, R, rfl, E⟩ := CL (av := [.str x10]) X (A.cut 0)
 replace A := A.Dx E
 refine BM 22 R H fun D t H => ?_
 refine AN 5 [(9, Ai x11), (10, Ai x12)] H fun D H => AS (Aa (id := 2) (by kernel_rfl) ?_)
 refine AH 3 (AN 3 [(25, .bool (x12 != 0))] H fun D H => Ac 25 H M (fun B M H => ?_) fun B M H => ?_)
 ·refine AH 2 (AN 2 [(6, Ai x12)] H fun D H => AZ ?_)
  obtain ⟨rfl, rfl⟩ := B4 M
  exact ⟨.inl rfl, _, rH H, rfl, A⟩
 refine AH 7 (AO 3 [(32, .bool (decide (x11 < 0)))] H fun D H => Bi 3 (fun N Q => K = Q ∧ Has N 43 [(0, .str p0), (2, .slice (some (bp2, 0)) 7), (7, Ai 3), (9, Ai x11), (11, .slice (some (bp1, 0)) 7), (12, Ai 7), (13, Ai 3), (35, .bool ((decide (x11 < 0)) || false))]) ?_ ?_)
 ·cases B : (decide (x11 < 0) : Bool) with
  | true =>
   replace H := H.kn 32 B
   exact AO 3 [(35, .bool true)] H fun D H => A8 H B
  | false =>
   replace H := H.kn 32 B
   exact AO 3 [(35, .bool false)] H fun D H => A8 H B
 intro t D Q C
 obtain ⟨e, H⟩ := C
 subst e
 refine AN 1 [(29, .bool ((decide (x11 < 0)) || false))] H fun D H => Ac 29 H M (fun B M H => ?_) fun B M H => ?_
 ·refine AH 1 (AN 1 [(6, Ai 6)] H fun D H => AZ ?_)
  obtain ⟨rfl, rfl⟩ := B4 M
  exact ⟨.inl rfl, _, rH H, rfl, A⟩
 refine EX 7 id (AX 3 [] 39 1 3 A H fun D t H => ?_)
 obtain ⟨h12, X, A⟩ := A.s2 6 [Ai x11] [_, _, _, _, _, _, _, _, _, _, _, _, _]
 refine Bu 2 [] X H fun D t H => ?_
 refine ED 2 id (Bv 2 [(0, .str p0), (2, .slice (some (bp2, 0)) 7), (11, .slice (some (bp1, 0)) 7), (12, Ai 7), (13, Ai 4)] H fun D H => Bq id (Db (by kernel_rfl) ?_))
 refine AH 1 (AN 1 [(14, .bool true)] H fun D H => AS (C8 (x := .tmp 14) (by kernel_rfl) H (fun D => by kernel_rfl) ?_))
 refine CT id (AS (Aa (id := 1) (by kernel_rfl) ?_))
 refine AH 5 (AX 2 [(15, Ai (4 : Int))] 17 0 4 A H fun D t H => ?_)
 refine B5 2 [(7, Ai 4), (8, Ai 5)] 9 H fun D H => ?_
 obtain ⟨x13, X, M⟩ := bind_some M
 obtain ⟨v1, h13, R, rfl, E⟩ := Bd (av := [.str p0, Ai 5]) X (A.cut 0)
 replace A := A.Dx E
 refine BC 2 [] 21 R H fun D t H => ?_
 obtain ⟨⟨x14, x15⟩, X, M⟩ := bind_some M
 obtain ⟨v1, J, R, rfl, E⟩ := CL (av := [.str x13]) X (A.cut 0)
 replace A := A.Dx E
 refine BM 22 R H fun D t H => ?_
 refine AN 5 [(9, Ai x14), (10, Ai x15)] H fun D H => AS (Aa (id := 2) (by kernel_rfl) ?_)
 refine AH 3 (AN 3 [(25, .bool (x15 != 0))] H fun D H => Ac 25 H M (fun B M H => ?_) fun B M H => ?_)
 ·refine AH 2 (AN 2 [(6, Ai x15)] H fun D H => AZ ?_)
  obtain ⟨rfl, rfl⟩ := B4 M
  exact ⟨.inl rfl, _, rH H, rfl, A⟩
 refine AH 7 (AO 3 [(32, .bool (decide (x14 < 0)))] H fun D H => Bi 3 (fun N Q => J = Q ∧ Has N 43 [(0, .str p0), (2, .slice (some (bp2, 0)) 7), (7, Ai 4), (9, Ai x14), (11, .slice (some (bp1, 0)) 7), (12, Ai 7), (13, Ai 4), (35, .bool ((decide (x14 < 0)) && false))]) ?_ ?_)
 ·cases B : (decide (x14 < 0) : Bool) with
  | true =>
   replace H := H.kn 32 B
   exact AO 3 [(35, .bool false)] H fun D H => A8 H B
  | false =>
   replace H := H.kn 32 B
   exact AO 3 [(35, .bool false)] H fun D H => A8 H B
 intro t D Q C
 obtain ⟨e, H⟩ := C
 subst e
 refine AN 1 [(29, .bool ((decide (x14 < 0)) && false))] H fun D H => Ac 29 H M (fun B M H => ?_) fun B M H => ?_
 ·refine AH 1 (AN 1 [(6, Ai 6)] H fun D H => AZ ?_)
  obtain ⟨rfl, rfl⟩ := B4 M
  exact ⟨.inl rfl, _, rH H, rfl, A⟩
 refine EX 7 id (AX 3 [] 39 1 4 A H fun D t H => ?_)
 obtain ⟨h15, X, A⟩ := A.s2 7 [Ai x14] [_, _, _, _, _, _, _, _, _, _, _, _, _]
 refine Bu 2 [] X H fun D t H => ?_
 refine ED 2 id (Bv 2 [(0, .str p0), (2, .slice (some (bp2, 0)) 7), (11, .slice (some (bp1, 0)) 7), (12, Ai 7), (13, Ai 5)] H fun D H => Bq id (Db (by kernel_rfl) ?_))
 refine AH 1 (AN 1 [(14, .bool true)] H fun D H => AS (C8 (x := .tmp 14) (by kernel_rfl) H (fun D => by kernel_rfl) ?_))
 refine CT id (AS (Aa (id := 1) (by kernel_rfl) ?_))
 refine AH 5 (AX 2 [(15, Ai (5 : Int))] 17 0 5 A H fun D t H => ?_)
 refine B5 2 [(7, Ai 5), (8, Ai 9)] 9 H fun D H => ?_
 obtain ⟨x16, X, M⟩ := bind_some M
 obtain ⟨v1, h16, R, rfl, E⟩ := Bd (av := [.str p0, Ai 9]) X (A.cut 0)
 replace A := A.Dx E
 refine BC 2 [] 21 R H fun D t H => ?_
 obtain ⟨⟨x17, x18⟩, X, M⟩ := bind_some M
 obtain ⟨v1, h17, R, rfl, E⟩ := CL (av := [.str x16]) X (A.cut 0)
 replace A := A.Dx E
 refine BM 22 R H fun D t H => ?_
 refine AN 5 [(9, Ai x17), (10, Ai x18)] H fun D H => AS (Aa (id := 2) (by kernel_rfl) ?_)
 refine AH 3 (AN 3 [(25, .bool (x18 != 0))] H fun D H => Ac 25 H M (fun B M H => ?_) fun B M H => ?_)
 ·refine AH 2 (AN 2 [(6, Ai x18)] H fun D H => AZ ?_)
  obtain ⟨rfl, rfl⟩ := B4 M
  exact ⟨.inl rfl, _, rH H, rfl, A⟩
 refine AH 7 (AO 3 [(32, .bool (decide (x17 < 0)))] H fun D H => Bi 3 (fun N Q => h17 = Q ∧ Has N 43 [(0, .str p0), (2, .slice (some (bp2, 0)) 7), (7, Ai 5), (9, Ai x17), (11, .slice (some (bp1, 0)) 7), (12, Ai 7), (13, Ai 5), (35, .bool ((decide (x17 < 0)) || false))]) ?_ ?_)
 ·cases B : (decide (x17 < 0) : Bool) with
  | true =>
   replace H := H.kn 32 B
   exact AO 3 [(35, .bool true)] H fun D H => A8 H B
  | false =>
   replace H := H.kn 32 B
   exact AO 3 [(35, .bool false)] H fun D H => A8 H B
 intro t D Q C
 obtain ⟨e, H⟩ := C
 subst e
 refine AN 1 [(29, .bool ((decide (x17 < 0)) || false))] H fun D H => Ac 29 H M (fun B M H => ?_) fun B M H => ?_
 ·refine AH 1 (AN 1 [(6, Ai 6)] H fun D H => AZ ?_)
  obtain ⟨rfl, rfl⟩ := B4 M
  exact ⟨.inl rfl, _, rH H, rfl, A⟩
 refine EX 7 id (AX 3 [] 39 1 5 A H fun D t H => ?_)
 obtain ⟨h18, X, A⟩ := A.s2 10 [Ai x17] [_, _, _, _, _, _, _, _, _, _, _, _, _]
 refine Bu 2 [] X H fun D t H => ?_
 refine ED 2 id (Bv 2 [(0, .str p0), (2, .slice (some (bp2, 0)) 7), (11, .slice (some (bp1, 0)) 7), (12, Ai 7), (13, Ai 6)] H fun D H => Bq id (Db (by kernel_rfl) ?_))
 refine AH 1 (AN 1 [(14, .bool true)] H fun D H => AS (C8 (x := .tmp 14) (by kernel_rfl) H (fun D => by kernel_rfl) ?_))
 refine CT id (AS (Aa (id := 1) (by kernel_rfl) ?_))
 refine AH 5 (AX 2 [(15, Ai (6 : Int))] 17 0 6 A H fun D t H => ?_)
 refine B5 2 [(7, Ai 6), (8, Ai 10)] 9 H fun D H => ?_
 obtain ⟨x19, X, M⟩ := bind_some M
 obtain ⟨v1, h19, R, rfl, E⟩ := Bd (av := [.str p0, Ai 10]) X (A.cut 0)
 replace A := A.Dx E
 refine BC 2 [] 21 R H fun D t H => ?_
 obtain ⟨⟨x20, x21⟩, X, M⟩ := bind_some M
 obtain ⟨v1, h20, R, rfl, E⟩ := CL (av := [.str x19]) X (A.cut 0)
 replace A := A.Dx E
 refine BM 22 R H fun D t H => ?_
 refine AN 5 [(9, Ai x20), (10, Ai x21)] H fun D H => AS (Aa (id := 2) (by kernel_rfl) ?_)
 refine AH 3 (AN 3 [(25, .bool (x21 != 0))] H fun D H => Ac 25 H M (fun B M H => ?_) fun B M H => ?_)
 ·refine AH 2 (AN 2 [(6, Ai x21)] H fun D H => AZ ?_)
  obtain ⟨rfl, rfl⟩ := B4 M
  exact ⟨.inl rfl, _, rH H, rfl, A⟩
 refine AH 7 (AO 3 [(32, .bool (decide (x20 < 0)))] H fun D H => Bi 3 (fun N Q => h20 = Q ∧ Has N 43 [(0, .str p0), (2, .slice (some (bp2, 0)) 7), (7, Ai 6), (9, Ai x20), (11, .slice (some (bp1, 0)) 7), (12, Ai 7), (13, Ai 6), (35, .bool ((decide (x20 < 0)) || false))]) ?_ ?_)
 ·cases B : (decide (x20 < 0) : Bool) with
  | true =>
   replace H := H.kn 32 B
   exact AO 3 [(35, .bool true)] H fun D H => A8 H B
  | false =>
   replace H := H.kn 32 B
   exact AO 3 [(35, .bool false)] H fun D H => A8 H B
 intro t D Q C
 obtain ⟨e, H⟩ := C
 subst e
 refine AN 1 [(29, .bool ((decide (x20 < 0)) || false))] H fun D H => Ac 29 H M (fun B M H => ?_) fun B M H => ?_
 ·refine AH 1 (AN 1 [(6, Ai 6)] H fun D H => AZ ?_)
  obtain ⟨rfl, rfl⟩ := B4 M
  exact ⟨.inl rfl, _, rH H, rfl, A⟩
 refine EX 7 id (AX 3 [] 39 1 6 A H fun D t H => ?_)
 obtain ⟨h21, X, A⟩ := A.s2 11 [Ai x20] [_, _, _, _, _, _, _, _, _, _, _, _, _]
 refine Bu 2 [] X H fun D t H => ?_
 refine ED 2 id (Bv 2 [(0, .str p0), (2, .slice (some (bp2, 0)) 7), (11, .slice (some (bp1, 0)) 7), (12, Ai 7), (13, Ai 7)] H fun D H => Bq id (Db (by kernel_rfl) ?_))
 refine AH 1 (AN 1 [(14, .bool false)] H fun D H => AS (ER (x := .tmp 14) (by kernel_rfl) H (fun D => by kernel_rfl) ?_))
 refine Bp (i := 0) (by kernel_rfl) ?_
 show AW _ _ _ _ _ _ _
 refine AH 1 (AN 1 [(6, Ai 0)] H fun D H => AZ ?_)
 obtain ⟨rfl, rfl⟩ := B4 M
 exact ⟨.inl rfl, _, rH H, rfl, A⟩
def IA (p0 : List UInt8) (p1 : List UInt8) : Option ((List UInt8)) :=
 Ao (p0 == ([] : UV)) (some p1) (Cl (decide (p0.length + ([47] : UV).length ≤ 9223372036854775807)) <| Cl (decide ((p0 ++ ([47] : UV)).length + p1.length ≤ 9223372036854775807)) <| some ((p0 ++ ([47] : UV)) ++ p1))
theorem Ld {p0 p1 q0} (M : IA p0 p1 = some q0) (A : HH g h [] F) (hc : BP (cfg.still 81) av = [.str p0, .str p1] := by kernel_rfl) : ∃ v Q, BZ cfg g h 81 av v Q ∧ v = .str q0 ∧ HH g Q [] F := by
 refine EE 12 [.tmp 4] hc ?_
 clear hc
 unfold IA at M
 refine bg 12 [(0, .str p0), (1, .str p1)] fun D H => ?_
 refine AH 1 (AN 1 [] H fun D H => AS (AH 2 (AN 2 [(6, .bool (p0 == ([] : UV)))] H fun D H => Ac 6 H M (fun B M H => ?_) fun B M H => ?_)))
 ·refine AH 2 (AN 2 [(4, .str p1)] H fun D H => AZ ?_)
  obtain rfl := BB M
  exact ⟨.inl rfl, _, rH H, rfl, A⟩
 refine B3 5 id (AO 1 [(8, .str p0)] H fun D H => ?_)
 obtain ⟨B, M⟩ := Aq M
 refine Ae 9 (.str (p0 ++ ([47] : UV))) h H (fun D => .of (Mp (by kernel_rfl) B)) fun D t H => ?_
 refine AO 1 [(10, .str p1)] H fun D H => ?_
 obtain ⟨B, M⟩ := Aq M
 refine Ae 11 (.str ((p0 ++ ([47] : UV)) ++ p1)) h H (fun D => .of (Mp (by kernel_rfl) B)) fun D t H => ?_
 refine AN 1 [(4, .str ((p0 ++ ([47] : UV)) ++ p1))] H fun D H => AZ ?_
 obtain rfl := BB M
 exact ⟨.inl rfl, _, rH H, rfl, A⟩
def ET (p0 : List UInt8) (p2_0 : AL) : Option (Int × AL) :=
 (Bf p0 (1 : Int)).bind fun x1 => (CH x1).bind fun (x2, x3) => Ao (x3 != 0) (some (x3, p2_0)) (Ao ((decide (x2 < 0)) || false) (some ((6 : Int), p2_0)) ((Bf p0 (2 : Int)).bind fun x4 => (CH x4).bind fun (x5, x6) => Ao (x6 != 0) (some (x6, (⟨p2_0.Name, p2_0.A9, p2_0.Kind, x2, p2_0.Cz, p2_0.Ct, p2_0.Bg, p2_0.Time, p2_0.Ah, p2_0.Aj, p2_0.Au, p2_0.As, p2_0.Form⟩ : AL))) (Ao ((decide (x5 < 0)) || false) (some ((6 : Int), (⟨p2_0.Name, p2_0.A9, p2_0.Kind, x2, p2_0.Cz, p2_0.Ct, p2_0.Bg, p2_0.Time, p2_0.Ah, p2_0.Aj, p2_0.Au, p2_0.As, p2_0.Form⟩ : AL))) ((Bf p0 (3 : Int)).bind fun x7 => (CH x7).bind fun (x8, x9) => Ao (x9 != 0) (some (x9, (⟨p2_0.Name, p2_0.A9, p2_0.Kind, x2, x5, p2_0.Ct, p2_0.Bg, p2_0.Time, p2_0.Ah, p2_0.Aj, p2_0.Au, p2_0.As, p2_0.Form⟩ : AL))) (Ao ((decide (x8 < 0)) || false) (some ((6 : Int), (⟨p2_0.Name, p2_0.A9, p2_0.Kind, x2, x5, p2_0.Ct, p2_0.Bg, p2_0.Time, p2_0.Ah, p2_0.Aj, p2_0.Au, p2_0.As, p2_0.Form⟩ : AL))) ((Bf p0 (4 : Int)).bind fun x10 => (CH x10).bind fun (x11, x12) => Ao (x12 != 0) (some (x12, (⟨p2_0.Name, p2_0.A9, p2_0.Kind, x2, x5, x8, p2_0.Bg, p2_0.Time, p2_0.Ah, p2_0.Aj, p2_0.Au, p2_0.As, p2_0.Form⟩ : AL))) (Ao ((decide (x11 < 0)) || false) (some ((6 : Int), (⟨p2_0.Name, p2_0.A9, p2_0.Kind, x2, x5, x8, p2_0.Bg, p2_0.Time, p2_0.Ah, p2_0.Aj, p2_0.Au, p2_0.As, p2_0.Form⟩ : AL))) ((Bf p0 (5 : Int)).bind fun x13 => (CH x13).bind fun (x14, x15) => Ao (x15 != 0) (some (x15, (⟨p2_0.Name, p2_0.A9, p2_0.Kind, x2, x5, x8, x11, p2_0.Time, p2_0.Ah, p2_0.Aj, p2_0.Au, p2_0.As, p2_0.Form⟩ : AL))) (Ao ((decide (x14 < 0)) && false) (some ((6 : Int), (⟨p2_0.Name, p2_0.A9, p2_0.Kind, x2, x5, x8, x11, p2_0.Time, p2_0.Ah, p2_0.Aj, p2_0.Au, p2_0.As, p2_0.Form⟩ : AL))) (some ((0 : Int), (⟨p2_0.Name, p2_0.A9, p2_0.Kind, x2, x5, x8, x11, x14, p2_0.Ah, p2_0.Aj, p2_0.Au, p2_0.As, p2_0.Form⟩ : AL))))))))))))
theorem Ie {p0 p2_0 bp1 bp2 bp2_0 q0 u2} (M : ET p0 p2_0 = some (q0, u2)) (A : HH g h [.obj bp1 (.cells (some 3) 2 [Ai (1 : Int), Ai (2 : Int), Ai (3 : Int), Ai (4 : Int), Ai (5 : Int)]), .obj bp2 (.cells (some 135) 2 [.ptr (some (bp2_0, 3)), .ptr (some (bp2_0, 4)), .ptr (some (bp2_0, 5)), .ptr (some (bp2_0, 6)), .ptr (some (bp2_0, 7))]), .obj bp2_0 (.cells none 2 (AK p2_0))] F) (hc : BP (cfg.still 80) av = [.str p0, .slice (some (bp1, 0)) 5, .slice (some (bp2, 0)) 5] := by kernel_rfl) : ∃ v Q, BZ cfg g h 80 av v Q ∧ v = Ai q0 ∧ HH g Q [.obj bp1 (.cells (some 3) 2 [Ai (1 : Int), Ai (2 : Int), Ai (3 : Int), Ai (4 : Int), Ai (5 : Int)]), .obj bp2 (.cells (some 135) 2 [.ptr (some (bp2_0, 3)), .ptr (some (bp2_0, 4)), .ptr (some (bp2_0, 5)), .ptr (some (bp2_0, 6)), .ptr (some (bp2_0, 7))]), .obj bp2_0 (.cells none 2 (AK u2))] F := by
 refine EE 43 [.tmp 6] hc ?_
 clear hc
 unfold ET at M
 refine bg 43 [(0, .str p0), (1, .slice (some (bp1, 0)) 5), (2, .slice (some (bp2, 0)) 5)] fun D H => ?_
 refine AH 1 (AN 1 [] H fun D H => AS (AH 3 (AN 3 [(11, .slice (some (bp1, 0)) 5), (12, Ai 5), (13, Ai 0)] H fun D H => Aa (id := 0) (by kernel_rfl) ?_)))
 refine Db (by kernel_rfl) ?_
 refine AH 1 (AN 1 [(14, .bool true)] H fun D H => AS (C8 (x := .tmp 14) (by kernel_rfl) H (fun D => by kernel_rfl) ?_))
 refine CT id (AS (Aa (id := 1) (by kernel_rfl) ?_))
 refine AH 5 (AX 2 [(15, Ai (0 : Int))] 17 0 0 A H fun D t H => ?_)
 refine B5 2 [(7, Ai 0), (8, Ai 1)] 9 H fun D H => ?_
 obtain ⟨x1, X, M⟩ := bind_some M
 obtain ⟨v1, h1, R, rfl, E⟩ := Bd (av := [.str p0, Ai 1]) X (A.cut 0)
 replace A := A.Dx E
 refine BC 2 [] 21 R H fun D t H => ?_
 obtain ⟨⟨x2, x3⟩, X, M⟩ := bind_some M
 obtain ⟨v1, h2, R, rfl, E⟩ := CL (av := [.str x1]) X (A.cut 0)
 replace A := A.Dx E
 refine BM 22 R H fun D t H => ?_
 refine AN 5 [(9, Ai x2), (10, Ai x3)] H fun D H => AS (Aa (id := 2) (by kernel_rfl) ?_)
 refine AH 3 (AN 3 [(25, .bool (x3 != 0))] H fun D H => Ac 25 H M (fun B M H => ?_) fun B M H => ?_)
 ·refine AH 2 (AN 2 [(6, Ai x3)] H fun D H => AZ ?_)
  obtain ⟨rfl, rfl⟩ := B4 M
  exact ⟨.inl rfl, _, rH H, rfl, A⟩
 refine AH 7 (AO 3 [(32, .bool (decide (x2 < 0)))] H fun D H => Bi 3 (fun N Q => h2 = Q ∧ Has N 43 [(0, .str p0), (2, .slice (some (bp2, 0)) 5), (7, Ai 0), (9, Ai x2), (11, .slice (some (bp1, 0)) 5), (12, Ai 5), (13, Ai 0), (35, .bool ((decide (x2 < 0)) || false))]) ?_ ?_)
 ·cases B : (decide (x2 < 0) : Bool) with
  | true =>
   replace H := H.kn 32 B
   exact AO 3 [(35, .bool true)] H fun D H => A8 H B
  | false =>
   replace H := H.kn 32 B
   exact AO 3 [(35, .bool false)] H fun D H => A8 H B
 intro t D Q C
 obtain ⟨e, H⟩ := C
 subst e
 refine AN 1 [(29, .bool ((decide (x2 < 0)) || false))] H fun D H => Ac 29 H M (fun B M H => ?_) fun B M H => ?_
 ·refine AH 1 (AN 1 [(6, Ai 6)] H fun D H => AZ ?_)
  obtain ⟨rfl, rfl⟩ := B4 M
  exact ⟨.inl rfl, _, rH H, rfl, A⟩
 refine EX 7 id (AX 3 [] 39 1 0 A H fun D t H => ?_)
 obtain ⟨G, X, A⟩ := A.s2 3 [Ai x2] [_, _, _, _, _, _, _, _, _, _, _, _, _]
 refine Bu 2 [] X H fun D t H => ?_
 refine ED 2 id (Bv 2 [(0, .str p0), (2, .slice (some (bp2, 0)) 5), (11, .slice (some (bp1, 0)) 5), (12, Ai 5), (13, Ai 1)] H fun D H => Bq id (Db (by kernel_rfl) ?_))
 refine AH 1 (AN 1 [(14, .bool true)] H fun D H => AS (C8 (x := .tmp 14) (by kernel_rfl) H (fun D => by kernel_rfl) ?_))
 refine CT id (AS (Aa (id := 1) (by kernel_rfl) ?_))
 refine AH 5 (AX 2 [(15, Ai (1 : Int))] 17 0 1 A H fun D t H => ?_)
 refine B5 2 [(7, Ai 1), (8, Ai 2)] 9 H fun D H => ?_
 obtain ⟨x4, X, M⟩ := bind_some M
 obtain ⟨v1, U, R, rfl, E⟩ := Bd (av := [.str p0, Ai 2]) X (A.cut 0)
 replace A := A.Dx E
 refine BC 2 [] 21 R H fun D t H => ?_
 obtain ⟨⟨x5, x6⟩, X, M⟩ := bind_some M
 obtain ⟨v1, T, R, rfl, E⟩ := CL (av := [.str x4]) X (A.cut 0)
 replace A := A.Dx E
 refine BM 22 R H fun D t H => ?_
 refine AN 5 [(9, Ai x5), (10, Ai x6)] H fun D H => AS (Aa (id := 2) (by kernel_rfl) ?_)
 refine AH 3 (AN 3 [(25, .bool (x6 != 0))] H fun D H => Ac 25 H M (fun B M H => ?_) fun B M H => ?_)
 ·refine AH 2 (AN 2 [(6, Ai x6)] H fun D H => AZ ?_)
  obtain ⟨rfl, rfl⟩ := B4 M
  exact ⟨.inl rfl, _, rH H, rfl, A⟩
 refine AH 7 (AO 3 [(32, .bool (decide (x5 < 0)))] H fun D H => Bi 3 (fun N Q => T = Q ∧ Has N 43 [(0, .str p0), (2, .slice (some (bp2, 0)) 5), (7, Ai 1), (9, Ai x5), (11, .slice (some (bp1, 0)) 5), (12, Ai 5), (13, Ai 1), (35, .bool ((decide (x5 < 0)) || false))]) ?_ ?_)
 ·cases B : (decide (x5 < 0) : Bool) with
  | true =>
   replace H := H.kn 32 B
   exact AO 3 [(35, .bool true)] H fun D H => A8 H B
  | false =>
   replace H := H.kn 32 B
   exact AO 3 [(35, .bool false)] H fun D H => A8 H B
 intro t D Q C
 obtain ⟨e, H⟩ := C
 subst e
 refine AN 1 [(29, .bool ((decide (x5 < 0)) || false))] H fun D H => Ac 29 H M (fun B M H => ?_) fun B M H => ?_
 ·refine AH 1 (AN 1 [(6, Ai 6)] H fun D H => AZ ?_)
  obtain ⟨rfl, rfl⟩ := B4 M
  exact ⟨.inl rfl, _, rH H, rfl, A⟩
 refine EX 7 id (AX 3 [] 39 1 1 A H fun D t H => ?_)
 obtain ⟨h6, X, A⟩ := A.s2 4 [Ai x5] [_, _, _, _, _, _, _, _, _, _, _, _, _]
 refine Bu 2 [] X H fun D t H => ?_
 refine ED 2 id (Bv 2 [(0, .str p0), (2, .slice (some (bp2, 0)) 5), (11, .slice (some (bp1, 0)) 5), (12, Ai 5), (13, Ai 2)] H fun D H => Bq id (Db (by kernel_rfl) ?_))
 refine AH 1 (AN 1 [(14, .bool true)] H fun D H => AS (C8 (x := .tmp 14) (by kernel_rfl) H (fun D => by kernel_rfl) ?_))
 refine CT id (AS (Aa (id := 1) (by kernel_rfl) ?_))
 refine AH 5 (AX 2 [(15, Ai (2 : Int))] 17 0 2 A H fun D t H => ?_)
 refine B5 2 [(7, Ai 2), (8, Ai 3)] 9 H fun D H => ?_
 obtain ⟨x7, X, M⟩ := bind_some M
 obtain ⟨v1, h7, R, rfl, E⟩ := Bd (av := [.str p0, Ai 3]) X (A.cut 0)
 replace A := A.Dx E
 refine BC 2 [] 21 R H fun D t H => ?_
 obtain ⟨⟨x8, x9⟩, X, M⟩ := bind_some M
 obtain ⟨v1, W, R, rfl, E⟩ := CL (av := [.str x7]) X (A.cut 0)
 replace A := A.Dx E
 refine BM 22 R H fun D t H => ?_
 refine AN 5 [(9, Ai x8), (10, Ai x9)] H fun D H => AS (Aa (id := 2) (by kernel_rfl) ?_)
 refine AH 3 (AN 3 [(25, .bool (x9 != 0))] H fun D H => Ac 25 H M (fun B M H => ?_) fun B M H => ?_)
 ·refine AH 2 (AN 2 [(6, Ai x9)] H fun D H => AZ ?_)
  obtain ⟨rfl, rfl⟩ := B4 M
  exact ⟨.inl rfl, _, rH H, rfl, A⟩
 refine AH 7 (AO 3 [(32, .bool (decide (x8 < 0)))] H fun D H => Bi 3 (fun N Q => W = Q ∧ Has N 43 [(0, .str p0), (2, .slice (some (bp2, 0)) 5), (7, Ai 2), (9, Ai x8), (11, .slice (some (bp1, 0)) 5), (12, Ai 5), (13, Ai 2), (35, .bool ((decide (x8 < 0)) || false))]) ?_ ?_)
 ·cases B : (decide (x8 < 0) : Bool) with
  | true =>
   replace H := H.kn 32 B
   exact AO 3 [(35, .bool true)] H fun D H => A8 H B
  | false =>
   replace H := H.kn 32 B
   exact AO 3 [(35, .bool false)] H fun D H => A8 H B
 intro t D Q C
 obtain ⟨e, H⟩ := C
 subst e
 refine AN 1 [(29, .bool ((decide (x8 < 0)) || false))] H fun D H => Ac 29 H M (fun B M H => ?_) fun B M H => ?_
 ·refine AH 1 (AN 1 [(6, Ai 6)] H fun D H => AZ ?_)
  obtain ⟨rfl, rfl⟩ := B4 M
  exact ⟨.inl rfl, _, rH H, rfl, A⟩
 refine EX 7 id (AX 3 [] 39 1 2 A H fun D t H => ?_)
 obtain ⟨h9, X, A⟩ := A.s2 5 [Ai x8] [_, _, _, _, _, _, _, _, _, _, _, _, _]
 refine Bu 2 [] X H fun D t H => ?_
 refine ED 2 id (Bv 2 [(0, .str p0), (2, .slice (some (bp2, 0)) 5), (11, .slice (some (bp1, 0)) 5), (12, Ai 5), (13, Ai 3)] H fun D H => Bq id (Db (by kernel_rfl) ?_))
 refine AH 1 (AN 1 [(14, .bool true)] H fun D H => AS (C8 (x := .tmp 14) (by kernel_rfl) H (fun D => by kernel_rfl) ?_))
 refine CT id (AS (Aa (id := 1) (by kernel_rfl) ?_))
 refine AH 5 (AX 2 [(15, Ai (3 : Int))] 17 0 3 A H fun D t H => ?_)
 refine B5 2 [(7, Ai 3), (8, Ai 4)] 9 H fun D H => ?_
 obtain ⟨x10, X, M⟩ := bind_some M
 obtain ⟨v1, h10, R, rfl, E⟩ := Bd (av := [.str p0, Ai 4]) X (A.cut 0)
 replace A := A.Dx E
 refine BC 2 [] 21 R H fun D t H => ?_
 obtain ⟨⟨x11, x12⟩, X, M⟩ := bind_some M
 obtain ⟨v1, K, R, rfl, E⟩ := CL (av := [.str x10]) X (A.cut 0)
 replace A := A.Dx E
 refine BM 22 R H fun D t H => ?_
 refine AN 5 [(9, Ai x11), (10, Ai x12)] H fun D H => AS (Aa (id := 2) (by kernel_rfl) ?_)
 refine AH 3 (AN 3 [(25, .bool (x12 != 0))] H fun D H => Ac 25 H M (fun B M H => ?_) fun B M H => ?_)
 ·refine AH 2 (AN 2 [(6, Ai x12)] H fun D H => AZ ?_)
  obtain ⟨rfl, rfl⟩ := B4 M
  exact ⟨.inl rfl, _, rH H, rfl, A⟩
 refine AH 7 (AO 3 [(32, .bool (decide (x11 < 0)))] H fun D H => Bi 3 (fun N Q => K = Q ∧ Has N 43 [(0, .str p0), (2, .slice (some (bp2, 0)) 5), (7, Ai 3), (9, Ai x11), (11, .slice (some (bp1, 0)) 5), (12, Ai 5), (13, Ai 3), (35, .bool ((decide (x11 < 0)) || false))]) ?_ ?_)
 ·cases B : (decide (x11 < 0) : Bool) with
  | true =>
   replace H := H.kn 32 B
   exact AO 3 [(35, .bool true)] H fun D H => A8 H B
  | false =>
   replace H := H.kn 32 B
   exact AO 3 [(35, .bool false)] H fun D H => A8 H B
 intro t D Q C
 obtain ⟨e, H⟩ := C
 subst e
 refine AN 1 [(29, .bool ((decide (x11 < 0)) || false))] H fun D H => Ac 29 H M (fun B M H => ?_) fun B M H => ?_
 ·refine AH 1 (AN 1 [(6, Ai 6)] H fun D H => AZ ?_)
  obtain ⟨rfl, rfl⟩ := B4 M
  exact ⟨.inl rfl, _, rH H, rfl, A⟩
 refine EX 7 id (AX 3 [] 39 1 3 A H fun D t H => ?_)
 obtain ⟨h12, X, A⟩ := A.s2 6 [Ai x11] [_, _, _, _, _, _, _, _, _, _, _, _, _]
 refine Bu 2 [] X H fun D t H => ?_
 refine ED 2 id (Bv 2 [(0, .str p0), (2, .slice (some (bp2, 0)) 5), (11, .slice (some (bp1, 0)) 5), (12, Ai 5), (13, Ai 4)] H fun D H => Bq id (Db (by kernel_rfl) ?_))
 refine AH 1 (AN 1 [(14, .bool true)] H fun D H => AS (C8 (x := .tmp 14) (by kernel_rfl) H (fun D => by kernel_rfl) ?_))
 refine CT id (AS (Aa (id := 1) (by kernel_rfl) ?_))
 refine AH 5 (AX 2 [(15, Ai (4 : Int))] 17 0 4 A H fun D t H => ?_)
 refine B5 2 [(7, Ai 4), (8, Ai 5)] 9 H fun D H => ?_
 obtain ⟨x13, X, M⟩ := bind_some M
 obtain ⟨v1, h13, R, rfl, E⟩ := Bd (av := [.str p0, Ai 5]) X (A.cut 0)
 replace A := A.Dx E
 refine BC 2 [] 21 R H fun D t H => ?_
 obtain ⟨⟨x14, x15⟩, X, M⟩ := bind_some M
 obtain ⟨v1, J, R, rfl, E⟩ := CL (av := [.str x13]) X (A.cut 0)
 replace A := A.Dx E
 refine BM 22 R H fun D t H => ?_
 refine AN 5 [(9, Ai x14), (10, Ai x15)] H fun D H => AS (Aa (id := 2) (by kernel_rfl) ?_)
 refine AH 3 (AN 3 [(25, .bool (x15 != 0))] H fun D H => Ac 25 H M (fun B M H => ?_) fun B M H => ?_)
 ·refine AH 2 (AN 2 [(6, Ai x15)] H fun D H => AZ ?_)
  obtain ⟨rfl, rfl⟩ := B4 M
  exact ⟨.inl rfl, _, rH H, rfl, A⟩
 refine AH 7 (AO 3 [(32, .bool (decide (x14 < 0)))] H fun D H => Bi 3 (fun N Q => J = Q ∧ Has N 43 [(0, .str p0), (2, .slice (some (bp2, 0)) 5), (7, Ai 4), (9, Ai x14), (11, .slice (some (bp1, 0)) 5), (12, Ai 5), (13, Ai 4), (35, .bool ((decide (x14 < 0)) && false))]) ?_ ?_)
 ·cases B : (decide (x14 < 0) : Bool) with
  | true =>
   replace H := H.kn 32 B
   exact AO 3 [(35, .bool false)] H fun D H => A8 H B
  | false =>
   replace H := H.kn 32 B
   exact AO 3 [(35, .bool false)] H fun D H => A8 H B
 intro t D Q C
 obtain ⟨e, H⟩ := C
 subst e
 refine AN 1 [(29, .bool ((decide (x14 < 0)) && false))] H fun D H => Ac 29 H M (fun B M H => ?_) fun B M H => ?_
 ·refine AH 1 (AN 1 [(6, Ai 6)] H fun D H => AZ ?_)
  obtain ⟨rfl, rfl⟩ := B4 M
  exact ⟨.inl rfl, _, rH H, rfl, A⟩
 refine EX 7 id (AX 3 [] 39 1 4 A H fun D t H => ?_)
 obtain ⟨h15, X, A⟩ := A.s2 7 [Ai x14] [_, _, _, _, _, _, _, _, _, _, _, _, _]
 refine Bu 2 [] X H fun D t H => ?_
 refine ED 2 id (Bv 2 [(0, .str p0), (2, .slice (some (bp2, 0)) 5), (11, .slice (some (bp1, 0)) 5), (12, Ai 5), (13, Ai 5)] H fun D H => Bq id (Db (by kernel_rfl) ?_))
 refine AH 1 (AN 1 [(14, .bool false)] H fun D H => AS (ER (x := .tmp 14) (by kernel_rfl) H (fun D => by kernel_rfl) ?_))
 refine Bp (i := 0) (by kernel_rfl) ?_
 show AW _ _ _ _ _ _ _
 refine AH 1 (AN 1 [(6, Ai 0)] H fun D H => AZ ?_)
 obtain ⟨rfl, rfl⟩ := B4 M
 exact ⟨.inl rfl, _, rH H, rfl, A⟩
def EV (p0 : AG) (p1 : Int) : Option (Bool) :=
 (F5 p0 p1).bind fun (x1, x2) => Ao (x2 != 0) (some false) ((Ep x1).bind fun (x3, x4) => some (x4 == 0))
theorem L3 {p0 p1 q0} (M : EV p0 p1 = some q0) (A : HH g h [] F) (hc : BP (cfg.still 262) av = [.agg (AE p0), Ai p1] := by kernel_rfl) : ∃ v Q, BZ cfg g h 262 av v Q ∧ v = .bool q0 ∧ HH g Q [] F := by
 refine EE 22 [.tmp 4] hc ?_
 clear hc
 unfold EV at M
 refine bg 22 [(0, .agg (AE p0)), (1, Ai p1)] fun D H => ?_
 refine AH 2 ?_
 obtain ⟨h1, e1, A⟩ := A.pu (.cells none 2 (AE p0))
 refine BU 2 (.ptr (some (h.size, 0))) e1 H fun D t H => ?_
 refine B5 1 [] 8 H fun D H => Ae 8 _ _ H (fun D => .of (BX (by kernel_rfl) (A.Ef 0 rfl (o := 0) (n := 14) ⟨Nat.le_of_ble_eq_true rfl, rfl⟩))) fun D t H => ?_
 obtain ⟨⟨x1, x2⟩, X, M⟩ := bind_some M
 obtain ⟨v1, h2, R, rqw1, rfl, E⟩ := JY (av := [.agg (AE p0), Ai p1]) X (A.cut 0)
 replace A : HH g h2 [.AQ rqw1 117 (AQ AJ x1), .obj h.size (.cells none 2 (AE p0))] F := A.Eg (n := 0) E
 refine BC 1 [] 10 R H fun D t H => ?_
 refine AN 5 [(5, AP rqw1 x1.length), (6, Ai x2)] H fun D H => AS (AH 2 (AN 2 [(14, .bool (x2 != 0))] H fun D H => Ac 14 H M (fun B M H => ?_) fun B M H => ?_))
 ·refine AH 1 (AN 1 [(4, .bool false)] H fun D H => AZ ?_)
  obtain rfl := BB M
  refine ⟨.inl rfl, .bool false, rH H, ?_⟩
  replace A := A.d0
  exact ⟨rfl, A⟩
 refine B3 6 id ?_
 obtain ⟨⟨x3, x4⟩, X, M⟩ := bind_some M
 obtain ⟨v1, G, R, rfl, E⟩ := Hf (av := [AP rqw1 x1.length]) X (A.cut 1)
 replace A := A.g11 E
 refine BC 1 [] 17 R H fun D t H => ?_
 refine Bv 4 [(6, Ai x4)] H fun D H => Bs 3 id (AN 3 [(4, .bool (x4 == 0))] H fun D H => AZ ?_)
 obtain rfl := BB M
 refine ⟨.inl rfl, .bool (x4 == 0), rH H, ?_⟩
 replace A := A.d0
 exact ⟨rfl, A⟩
def FG (p0 : Int) : Option (Int × Int) :=
 (HC p0).bind fun x1 => Ao (!x1) (some ((0 : Int), (6 : Int))) ((Gi p0).bind fun x2 => some (i64.wrap (Int.tdiv (i64.wrap (p0 + x2)) (512 : Int)), (0 : Int)))
theorem Jw {p0 q0 q1} (M : FG p0 = some (q0, q1)) (A : HH g h [] F) (hc : BP (cfg.still 205) av = [Ai p0] := by kernel_rfl) : ∃ v Q, BZ cfg g h 205 av v Q ∧ v = .tuple [Ai q0, Ai q1] ∧ HH g Q [] F := by
 refine EE 12 [.tmp 2, .tmp 3] hc ?_
 clear hc
 unfold FG at M
 refine bg 12 [(0, Ai p0)] fun D H => ?_
 refine AH 2 (AN 2 [] H fun D H => AS (AH 3 ?_))
 obtain ⟨x1, X, M⟩ := bind_some M
 obtain ⟨v1, h1, R, rfl, E⟩ := Ks (av := [Ai p0]) X (A.cut 0)
 replace A := A.Dx E
 refine BC 1 [] 5 R H fun D t H => ?_
 refine AN 1 [(6, .bool (!x1))] H fun D H => Ac 6 H M (fun B M H => ?_) fun B M H => ?_
 ·refine AH 2 (AN 2 [(2, Ai 0), (3, Ai 6)] H fun D H => AZ ?_)
  obtain ⟨rfl, rfl⟩ := B4 M
  exact ⟨.inl rfl, _, rH H, rfl, A⟩
 refine B3 7 id ?_
 obtain ⟨x2, X, M⟩ := bind_some M
 obtain ⟨v1, h2, R, rfl, E⟩ := JQ (av := [Ai p0]) X (A.cut 0)
 replace A := A.Dx E
 refine BC 2 [(7, Ai p0)] 9 R H fun D t H => ?_
 refine AN 4 [(2, Ai (i64.wrap (Int.tdiv (i64.wrap (p0 + x2)) (512 : Int)))), (3, Ai 0)] H fun D H => AZ ?_
 obtain ⟨rfl, rfl⟩ := B4 M
 exact ⟨.inl rfl, _, rH H, rfl, A⟩
def CG (p0 : AV) (p1 : Int) : Option (AV) :=
 (FG p1).bind fun (x1, x2) => (Et p1).bind fun (x3, x4) => some (⟨p0.Aw, p0.Az, (3 : Int), x3, i64.wrap (p0.at_ + x1), p0.BD, p0.BG, p0.BH, p0.AD, p0.BI, p0.DR, (⟨([] : List AA), p0.AM.Ba, p0.AM.Be, p0.AM.Ag, p0.AM.Af, p0.AM.Ak⟩ : Ap), ([] : List AA)⟩ : AV)
theorem GK {p0 p1 bp0 bp0_2 bp0_2_0 rp0_23 u0} (M : CG p0 p1 = some u0) (A : HH g h [.obj bp0 (.cells none 2 [Ai p0.Aw.Head, Ai p0.Aw.Name, .ptr (some (bp0_2, 0)), Ai p0.BE, Ai p0.BQ, Ai p0.at_, .bool p0.BD, Ai p0.BG, Ai p0.BH, .str p0.AD.Name, .str p0.AD.A9, Ab p0.AD.Kind, Ai p0.AD.Mode, Ai p0.AD.Cz, Ai p0.AD.Ct, Ai p0.AD.Bg, Ai p0.AD.Time, .str p0.AD.Ah, .str p0.AD.Aj, Ai p0.AD.Au, Ai p0.AD.As, Ai p0.AD.Form, Ai p0.BI, AP rp0_23 p0.DR.length, .slice none 0, .str p0.AM.Ba, .str p0.AM.Be, .bool p0.AM.Ag, .bool p0.AM.Af, .bool p0.AM.Ak, .slice none 0]), .obj bp0_2 (.cells none 2 [.chan (some bp0_2_0), .str p0.Az.Bz, Ai p0.Az.Ar, .bool p0.Az.AY]), .obj bp0_2_0 (.chan 64 (AQ eS p0.Az.BL)), .AQ rp0_23 5 (AQ eY p0.DR)] F) (hc : BP (cfg.still 202) av = [.ptr (some (bp0, 0)), Ai p1] := by kernel_rfl) : ∃ v Q, BZ cfg g h 202 av v Q ∧ v = .tuple [] ∧ HH g Q [.obj bp0 (.cells none 2 [Ai u0.Aw.Head, Ai u0.Aw.Name, .ptr (some (bp0_2, 0)), Ai u0.BE, Ai u0.BQ, Ai u0.at_, .bool u0.BD, Ai u0.BG, Ai u0.BH, .str u0.AD.Name, .str u0.AD.A9, Ab u0.AD.Kind, Ai u0.AD.Mode, Ai u0.AD.Cz, Ai u0.AD.Ct, Ai u0.AD.Bg, Ai u0.AD.Time, .str u0.AD.Ah, .str u0.AD.Aj, Ai u0.AD.Au, Ai u0.AD.As, Ai u0.AD.Form, Ai u0.BI, AP rp0_23 p0.DR.length, .slice none 0, .str u0.AM.Ba, .str u0.AM.Be, .bool u0.AM.Ag, .bool u0.AM.Af, .bool u0.AM.Ak, .slice none 0]), .obj bp0_2 (.cells none 2 [.chan (some bp0_2_0), .str p0.Az.Bz, Ai p0.Az.Ar, .bool p0.Az.AY]), .obj bp0_2_0 (.chan 64 (AQ eS p0.Az.BL)), .AQ rp0_23 5 (AQ eY p0.DR)] F := by
 refine EE 30 [] hc ?_
 clear hc
 unfold CG at M
 refine bg 30 [(0, .ptr (some (bp0, 0))), (1, Ai p1)] fun D H => ?_
 refine AH 7 ?_
 obtain ⟨⟨x1, x2⟩, X, M⟩ := bind_some M
 obtain ⟨v1, h1, R, rfl, E⟩ := Jw (av := [Ai p1]) X (A.cut 0)
 replace A := A.Dx E
 refine BC 1 [] 8 R H fun D t H => ?_
 refine B5 5 [(4, Ai x1)] 9 H fun D H => ?_
 obtain ⟨⟨x3, x4⟩, X, M⟩ := bind_some M
 obtain ⟨v1, h2, R, rfl, E⟩ := Jc (av := [Ai p1]) X (A.cut 0)
 replace A := A.Dx E
 refine BC 2 [(12, .ptr (some (bp0, 0)))] 14 R H fun D t H => ?_
 obtain ⟨G, X, A⟩ := A.s0 4 [Ai x3] [_, _, _, _, _, _, _, _, _, _, _, _, _, _, _, _, _, _, _, _, _, _, _, _, _, _, _, _, _, _, _]
 refine Bu 5 [] X H fun D t H => ?_
 refine Bs 9 id (AX 3 [(19, .ptr (some (bp0, 0)))] 22 0 5 A H fun D t H => ?_)
 obtain ⟨U, X, A⟩ := A.s0 5 [Ai (i64.wrap (p0.at_ + x1))] [_, _, _, _, _, _, _, _, _, _, _, _, _, _, _, _, _, _, _, _, _, _, _, _, _, _, _, _, _, _, _]
 refine Bu 4 [] X H fun D t H => ?_
 refine ED 4 id ?_
 obtain ⟨T, X, A⟩ := A.s0 3 [Ai 3] [_, _, _, _, _, _, _, _, _, _, _, _, _, _, _, _, _, _, _, _, _, _, _, _, _, _, _, _, _, _, _]
 refine Bu 3 [] X H fun D t H => ?_
 refine at_nil ?_
 obtain rfl := BB M
 refine ⟨.inr rfl, .tuple [], rH H, ?_⟩
 exact ⟨rfl, A⟩
def EC (p0 : AU) : Option (Int) :=
 some p0.Ar
theorem Je {p0 bp0 bp0_0 q0} (M : EC p0 = some q0) (A : HH g h [.obj bp0 (.cells none 2 [.chan (some bp0_0), .str p0.Bz, Ai p0.Ar, .bool p0.AY]), .obj bp0_0 (.chan 64 (AQ eS p0.BL))] F) (hc : BP (cfg.still 152) av = [.ptr (some (bp0, 0))] := by kernel_rfl) : ∃ v Q, BZ cfg g h 152 av v Q ∧ v = Ai q0 ∧ HH g Q [.obj bp0 (.cells none 2 [.chan (some bp0_0), .str p0.Bz, Ai p0.Ar, .bool p0.AY]), .obj bp0_0 (.chan 64 (AQ eS p0.BL))] F := by
 refine EE 7 [.tmp 2] hc ?_
 clear hc
 unfold EC at M
 refine bg 7 [(0, .ptr (some (bp0, 0)))] fun D H => ?_
 refine AH 1 (B5 1 [] 5 H fun D H => AX 3 [] 6 0 2 A H fun D t H => ?_)
 refine AN 1 [(2, Ai p0.Ar)] H fun D H => AZ ?_
 obtain rfl := BB M
 exact ⟨.inl rfl, _, rH H, rfl, A⟩
end
end Go.Av.L
