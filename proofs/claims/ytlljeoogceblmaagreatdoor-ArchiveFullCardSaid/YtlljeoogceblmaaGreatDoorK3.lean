/-
 A part.
-/
import Derived.Test.YtlljeoogceblmaaGreatDoorKCfg
import Derived.Test.YtlljeoogceblmaaGreatDoorK0
import Derived.Test.YtlljeoogceblmaaGreatDoorK1
import Derived.Test.YtlljeoogceblmaaGreatDoorK2
namespace Go.Av.L
open Go.Av Go.Lib
open IntKind (i64)
set_option maxRecDepth 10000
set_option linter.unusedVariables false
set_option linter.unusedSimpArgs false
variable {g : Gd} {h : AF} {F : List Ck} {av : List AB}
noncomputable section
def GQ (p0 : AG) (p1 : Int) : Option ((List UInt8) × Int) :=
 (Ao (p0.Kind == 0) (some (48 : Int)) (some p0.Kind) : Option ((Int))).bind fun x1 => (Hk (⟨p0.Name, p0.A9, x1, p0.Mode, p0.Cz, p0.Ct, p0.Ah, p0.Aj, p0.Au, p0.As, p0.Time, p0.Extra, p0.Data⟩ : AG) p1).bind fun x2 => Ao (x2 != 0) (some (([] : UV), x2)) ((F5 (⟨p0.Name, p0.A9, x1, p0.Mode, p0.Cz, p0.Ct, p0.Ah, p0.Aj, p0.Au, p0.As, p0.Time, p0.Extra, p0.Data⟩ : AG) p1).bind fun (x3, x4) => (F6 x3).bind fun (x5, x6) => Ao (x6 != 0) (some (([] : UV), x6)) ((JR (⟨p0.Name, p0.A9, x1, p0.Mode, p0.Cz, p0.Ct, p0.Ah, p0.Aj, p0.Au, p0.As, p0.Time, p0.Extra, p0.Data⟩ : AG) p1).bind fun (x7, x8) => (Fz x7).bind fun (x9, x10) => (E0 ([x5, x9] : List (List UInt8))).bind fun x11 => some (x11, x10)))
theorem NZ {p0 p1 q0 q1} (M : GQ p0 p1 = some (q0, q1)) (A : HH g h [] F) (hc : BP (cfg.still 13) av = [.agg (AE p0), Ai p1] := by kernel_rfl) : ∃ v Q, BZ cfg g h 13 av v Q ∧ v = .tuple [.str q0, Ai q1] ∧ HH g Q [] F := by
 refine EE 54 [.tmp 4, .tmp 5] hc ?_
 clear hc
 unfold GQ at M
 refine bg 54 [(0, .agg (AE p0)), (1, Ai p1)] fun D H => ?_
 refine AH 3 ?_
 obtain ⟨h1, e1, A⟩ := A.pu (.cells none 2 (AE p0))
 refine BU 2 (.ptr (some (h.size, 0))) e1 H fun D t H => ?_
 refine AN 2 [] H fun D H => AS ?_
 obtain ⟨o1, O, M⟩ := bind_some M
 refine Bb (Q' := fun e N Q => (∃ x1, e = .normal ∧ x1 = o1 ∧ Has N 54 [(1, Ai p1), (2, .ptr (some (h.size, 0)))] ∧ HH g Q [.obj h.size (.cells none 2 (Fo p0 (Ab x1)))] F) ∨ False) ?_ ?_
 ·replace M := O
  clear O
  refine AH 3 (AX 1 [] 15 0 2 A H fun D t H => ?_)
  refine AN 1 [(16, .bool (p0.Kind == 0))] H fun D H => Ac 16 H M (fun B M H => ?_) fun B M H => ?_
  ·refine CE 2 ?_
   obtain ⟨h2, X, A⟩ := A.s0 2 [Ab 48] [_, _, _, _, _, _, _, _, _, _, _, _, _, _]
   refine Bu 1 [] X H fun D t H => ?_
   refine at_nil ?_
   exact .inl ⟨_, rfl, BB M, H.ls, A⟩
  exact EJ (.inl ⟨_, rfl, BB M, H.ls, A⟩)
 clear O
 clear A
 intro e D I J
 rcases J with ⟨x1, rfl, rfl, H, A⟩ | K
 ·show AW _ _ _ _ _ _ _
  refine AS (AH 4 (Ae 18 _ _ H (fun D => .of (BX (by kernel_rfl) (A.Ef 0 rfl (o := 0) (n := 14) ⟨Nat.le_of_ble_eq_true rfl, rfl⟩))) fun D t H => ?_))
  obtain ⟨x2, X, M⟩ := bind_some M
  obtain ⟨v1, T, R, rfl, E⟩ := Mw (av := [.agg (Fo p0 (Ab x1)), Ai p1]) X (A.cut 0)
  replace A := A.Dx E
  refine BC 1 [] 20 R H fun D t H => ?_
  refine B5 1 [(6, Ai x2)] 2 H fun D H => AN 2 [(22, .bool (x2 != 0))] H fun D H => Ac 22 H M (fun B M H => ?_) fun B M H => ?_
  ·refine AH 3 (AN 3 [(4, .str ([] : UV)), (5, Ai x2)] H fun D H => AZ ?_)
   obtain ⟨rfl, rfl⟩ := B4 M
   refine ⟨.inl rfl, .tuple [.str ([] : UV), Ai x2], rH H, ?_⟩
   replace A := A.d0
   exact ⟨rfl, A⟩
  refine B3 8 id (Ae 25 _ _ H (fun D => .of (BX (by kernel_rfl) (A.Ef 0 rfl (o := 0) (n := 14) ⟨Nat.le_of_ble_eq_true rfl, rfl⟩))) fun D t H => ?_)
  obtain ⟨⟨x3, x4⟩, X, M⟩ := bind_some M
  obtain ⟨v1, h5, R, rqw2, rfl, E⟩ := JY (av := [.agg (Fo p0 (Ab x1)), Ai p1]) X (A.cut 0)
  replace A := A.VA E
  refine BC 1 [] 27 R H fun D t H => ?_
  refine B5 5 [(7, AP rqw2 x3.length)] 7 H fun D H => ?_
  obtain ⟨⟨x5, x6⟩, X, M⟩ := bind_some M
  obtain ⟨v1, h6, R, rfl, E⟩ := K4 (av := [AP rqw2 x3.length]) X (A.cut 1)
  replace A := A.g11 E
  refine BC 1 [] 32 R H fun D t H => ?_
  refine AN 5 [(9, .str x5), (10, Ai x6)] H fun D H => AS (AH 2 (AN 2 [(36, .bool (x6 != 0))] H fun D H => Ac 36 H M (fun B M H => ?_) fun B M H => ?_))
  ·refine AH 3 (AN 3 [(4, .str ([] : UV)), (5, Ai x6)] H fun D H => AZ ?_)
   obtain ⟨rfl, rfl⟩ := B4 M
   refine ⟨.inl rfl, .tuple [.str ([] : UV), Ai x6], rH H, ?_⟩
   replace A := A.d0
   exact ⟨rfl, A⟩
  refine B3 9 id (Ae 39 _ _ H (fun D => .of (BX (by kernel_rfl) (A.Ef 1 rfl (o := 0) (n := 14) ⟨Nat.le_of_ble_eq_true rfl, rfl⟩))) fun D t H => ?_)
  obtain ⟨⟨x7, x8⟩, X, M⟩ := bind_some M
  obtain ⟨v1, Y, R, rfl, E⟩ := OL (av := [.agg (Fo p0 (Ab x1)), Ai p1]) X (A.cut 0)
  replace A := A.Dx E
  refine BC 1 [] 41 R H fun D t H => ?_
  obtain ⟨h8, e2, A⟩ := A.pu (.cells none 2 [.str ([] : UV), .str ([] : UV), Ab 0, Ai 0, Ai 0, Ai 0, Ai 0, Ai 0, .str ([] : UV), .str ([] : UV), Ai 0, Ai 0, Ai 0])
  refine K2 3 [(42, .agg (AK x7)), (43, Ai x8)] 11 (.ptr (some (Y.size, 0))) e2 H fun D t H => ?_
  obtain ⟨h9, X, A⟩ := A.s0 0 (AK x7) [_, _, _, _, _, _, _, _, _, _, _, _, _]
  refine C9 X H fun D t H => ?_
  refine B5 1 [] 7 H fun D H => Ae 45 _ _ H (fun D => .of (BX (by kernel_rfl) (A.Ef 0 rfl (o := 0) (n := 13) ⟨Nat.le_of_ble_eq_true rfl, rfl⟩))) fun D t H => ?_
  obtain ⟨⟨x9, x10⟩, X, M⟩ := bind_some M
  obtain ⟨v1, G, R, rfl, E⟩ := JZ (av := [.agg (AK x7)]) X (A.cut 0)
  replace A := A.Dx E
  refine BM 46 R H fun D t H => ?_
  refine Bv 5 [(9, .str x5), (10, Ai x10), (13, .str x9)] H fun D H => Bs 7 id (AO 2 [(49, .str x5), (50, .str x9)] H fun D H => ?_)
  obtain ⟨W, e3, A⟩ := A.pL 9 [.str x5, .str x9]
  refine BU 51 (AP (some G.size) (([x5, x9] : List (List UInt8)).length)) e3 H fun D t H => ?_
  replace A : HH g W [.AQ (some G.size) 9 (AQ eS ([x5, x9] : List (List UInt8))), _, _, _] F := A
  obtain ⟨x11, X, M⟩ := bind_some M
  obtain ⟨v1, Z, R, rfl, E⟩ := H9 (av := [AP (some G.size) (([x5, x9] : List (List UInt8)).length)]) X (A.cut 1)
  replace A := A.g11 E
  refine BM 52 R H fun D t H => ?_
  refine AN 3 [(4, .str x11), (5, Ai x10)] H fun D H => AZ ?_
  obtain ⟨rfl, rfl⟩ := B4 M
  refine ⟨.inl rfl, .tuple [.str x11, Ai x10], rH H, ?_⟩
  replace A := A.d0
  exact ⟨rfl, A⟩
 exact K.elim
def CM (p0 : BS) (p1 : AG) (p2 : Int) : Option ((List UInt8) × Int × BS) :=
 Ao (p0.EH || p0.AY) (some (([] : UV), (10 : Int), p0)) ((GQ p1 p2).bind fun (x1, x2) => Ao (x2 != 0) (some (([] : UV), x2, p0)) (some (x1, (0 : Int), (⟨true, p0.AY, p2, p2⟩ : BS))))
theorem F0 {p0 p1 p2 bp0 q0 q1 u0} (M : CM p0 p1 p2 = some (q0, q1, u0)) (A : HH g h [.obj bp0 (.cells none 2 (CO p0))] F) (hc : BP (cfg.still 17) av = [.ptr (some (bp0, 0)), .agg (AE p1), Ai p2] := by kernel_rfl) : ∃ v Q, BZ cfg g h 17 av v Q ∧ v = .tuple [.str q0, Ai q1] ∧ HH g Q [.obj bp0 (.cells none 2 (CO u0))] F := by
 refine EE 41 [.tmp 6, .tmp 7] hc ?_
 clear hc
 unfold CM at M
 refine bg 41 [(0, .ptr (some (bp0, 0))), (1, .agg (AE p1)), (2, Ai p2)] fun D H => ?_
 refine AH 3 ?_
 obtain ⟨h1, e1, A⟩ := A.pu (.cells none 2 (AE p1))
 refine BU 4 (.ptr (some (h.size, 0))) e1 H fun D t H => ?_
 refine AN 2 [] H fun D H => AS (AH 10 (AX 3 [] 13 1 0 A H fun D t H => ?_))
 refine AO 1 [(14, .bool p0.EH)] H fun D H => Bi 5 (fun N Q => h1 = Q ∧ Has N 41 [(0, .ptr (some (bp0, 0))), (2, Ai p2), (4, .ptr (some (h.size, 0))), (19, .bool (p0.EH || p0.AY))]) ?_ ?_
 ·cases B : (p0.EH : Bool) with
  | true =>
   replace H := H.kn 14 B
   exact AO 5 [(19, .bool true)] H fun D H => A8 H B
  | false =>
   replace H := H.kn 14 B
   refine AX 3 [] 18 1 1 A H fun D t H => ?_
   exact AO 1 [(19, .bool p0.AY)] H fun D H => A8 H B
 intro t D Q C
 obtain ⟨e, H⟩ := C
 subst e
 refine Bq id (Ac 19 H M (fun B M H => ?_) fun B M H => ?_)
 ·refine AH 2 (AN 2 [(6, .str ([] : UV)), (7, Ai 10)] H fun D H => AZ ?_)
  obtain ⟨rfl, rfl, rfl⟩ := EG M
  refine ⟨.inl rfl, .tuple [.str ([] : UV), Ai 10], rH H, ?_⟩
  replace A := A.k1 1
  exact ⟨rfl, A⟩
 refine B3 8 id (Ae 21 _ _ H (fun D => .of (BX (by kernel_rfl) (A.Ef 0 rfl (o := 0) (n := 14) ⟨Nat.le_of_ble_eq_true rfl, rfl⟩))) fun D t H => ?_)
 obtain ⟨⟨x1, x2⟩, X, M⟩ := bind_some M
 obtain ⟨v1, h2, R, rfl, E⟩ := NZ (av := [.agg (AE p1), Ai p2]) X (A.cut 0)
 replace A : HH g h2 [.obj h.size (.cells none 2 (AE p1)), _] F := A.Eg (n := 0) E
 refine BC 1 [] 23 R H fun D t H => ?_
 refine AN 5 [(8, .str x1), (9, Ai x2)] H fun D H => AS (AH 2 (AN 2 [(27, .bool (x2 != 0))] H fun D H => Ac 27 H M (fun B M H => ?_) fun B M H => ?_))
 ·refine AH 3 (AN 3 [(6, .str ([] : UV)), (7, Ai x2)] H fun D H => AZ ?_)
  obtain ⟨rfl, rfl, rfl⟩ := EG M
  refine ⟨.inl rfl, .tuple [.str ([] : UV), Ai x2], rH H, ?_⟩
  replace A := A.k1 1
  exact ⟨rfl, A⟩
 refine B3 14 id ?_
 obtain ⟨I, X, A⟩ := A.s1 0 [.bool true] [_, _, _, _]
 refine Bu 7 [(30, .ptr (some (bp0, 0))), (31, .ptr (some (bp0, 0))), (32, Ai p2), (33, Ai p2)] X H fun D t H => ?_
 obtain ⟨T, X, A⟩ := A.s1 2 [Ai p2] [_, _, _, _]
 refine Bu 2 [] X H fun D t H => ?_
 obtain ⟨h5, X, A⟩ := A.s1 3 [Ai p2] [_, _, _, _]
 refine Bu 2 [] X H fun D t H => ?_
 refine Bs 3 id (AN 3 [(6, .str x1), (7, Ai 0)] H fun D H => AZ ?_)
 obtain ⟨rfl, rfl, rfl⟩ := EG M
 refine ⟨.inl rfl, .tuple [.str x1, Ai 0], rH H, ?_⟩
 replace A := A.k1 1
 exact ⟨rfl, A⟩
def DV (p0 : BS) : Option ((List UInt8) × Int × BS) :=
 Ao (!p0.EH) (some (([] : UV), (10 : Int), p0)) (Ao (decide (p0.BQ > 0)) (some (([] : UV), (3 : Int), p0)) ((Et p0.Ar).bind fun (x1, x2) => Cl (TH 1 x1) <| some ((List.replicate x1.toNat (0 : UInt8)), (0 : Int), (⟨false, p0.AY, p0.Ar, p0.BQ⟩ : BS))))
theorem GD {p0 bp0 q0 q1 u0} (M : DV p0 = some (q0, q1, u0)) (A : HH g h [.obj bp0 (.cells none 2 (CO p0))] F) (hc : BP (cfg.still 19) av = [.ptr (some (bp0, 0))] := by kernel_rfl) : ∃ v Q, BZ cfg g h 19 av v Q ∧ v = .tuple [.str q0, Ai q1] ∧ HH g Q [.obj bp0 (.cells none 2 (CO u0))] F := by
 refine EE 32 [.tmp 2, .tmp 3] hc ?_
 clear hc
 unfold DV at M
 refine bg 32 [(0, .ptr (some (bp0, 0)))] fun D H => ?_
 refine AH 2 (AN 2 [] H fun D H => AS (Aa (id := 0) (by kernel_rfl) ?_))
 refine AH 6 (AX 3 [] 10 0 0 A H fun D t H => ?_)
 refine AN 2 [(6, .bool (!p0.EH))] H fun D H => Ac 6 H M (fun B M H => ?_) fun B M H => ?_
 ·refine AH 2 (AN 2 [(2, .str ([] : UV)), (3, Ai 10)] H fun D H => AZ ?_)
  obtain ⟨rfl, rfl, rfl⟩ := EG M
  exact ⟨.inl rfl, _, rH H, rfl, A⟩
 refine AH 6 (AX 3 [] 16 0 3 A H fun D t H => ?_)
 refine AN 2 [(12, .bool (decide (p0.BQ > 0)))] H fun D H => Ac 12 H M (fun B M H => ?_) fun B M H => ?_
 ·refine AH 2 (AN 2 [(2, .str ([] : UV)), (3, Ai 3)] H fun D H => AZ ?_)
  obtain ⟨rfl, rfl, rfl⟩ := EG M
  exact ⟨.inl rfl, _, rH H, rfl, A⟩
 refine B3 4 id ?_
 obtain ⟨h1, X, A⟩ := A.s0 0 [.bool false] [_, _, _, _]
 refine Bu 3 [] X H fun D t H => ?_
 refine Bs 10 id (AX 3 [] 25 0 2 A H fun D t H => ?_)
 obtain ⟨⟨x1, x2⟩, X, M⟩ := bind_some M
 obtain ⟨v1, h2, R, rfl, E⟩ := Jc (av := [Ai p0.Ar]) X (A.cut 0)
 replace A := A.Dx E
 refine BM 26 R H fun D t H => ?_
 refine B5 5 [(4, Ai x1)] 5 H fun D H => ?_
 obtain ⟨B, M⟩ := Aq M
 obtain ⟨I, e1, A⟩ := A.pL 5 (AQ eY (List.replicate x1.toNat (0 : UInt8)))
 refine B0 1 [] 30 (AP (some h2.size) (List.replicate x1.toNat (0 : UInt8)).length) I H (fun D => .of (SM (e := eY) Df (x := (0 : UInt8)) (by kernel_rfl) B (congrArg some e1.symm))) fun D t H => ?_
 refine Ae 31 (.str (List.replicate x1.toNat (0 : UInt8))) I H (fun D => .of (Kt (xs := (List.replicate x1.toNat (0 : UInt8))) A 0 rfl (by kernel_rfl))) fun D t H => ?_
 refine AN 2 [(2, .str (List.replicate x1.toNat (0 : UInt8))), (3, Ai 0)] H fun D H => AZ ?_
 obtain ⟨rfl, rfl, rfl⟩ := EG M
 refine ⟨.inl rfl, .tuple [.str (List.replicate x1.toNat (0 : UInt8)), Ai 0], rH H, ?_⟩
 replace A := A.k1 1
 exact ⟨rfl, A⟩
def DK (p0 : BS) : Option ((List UInt8) × Int × BS) :=
 Ao (p0.EH || p0.AY) (some (([] : UV), (10 : Int), p0)) ((LA).bind fun x1 => some (x1, (0 : Int), (⟨p0.EH, true, p0.Ar, p0.BQ⟩ : BS)))
theorem Fy {p0 bp0 q0 q1 u0} (M : DK p0 = some (q0, q1, u0)) (A : HH g h [.obj bp0 (.cells none 2 (CO p0))] F) (hc : BP (cfg.still 20) av = [.ptr (some (bp0, 0))] := by kernel_rfl) : ∃ v Q, BZ cfg g h 20 av v Q ∧ v = .tuple [.str q0, Ai q1] ∧ HH g Q [.obj bp0 (.cells none 2 (CO u0))] F := by
 refine EE 18 [.tmp 2, .tmp 3] hc ?_
 clear hc
 unfold DK at M
 refine bg 18 [(0, .ptr (some (bp0, 0)))] fun D H => ?_
 refine AH 2 (AN 2 [] H fun D H => AS (AH 10 (AX 3 [] 7 0 0 A H fun D t H => ?_)))
 refine AO 1 [(8, .bool p0.EH)] H fun D H => Bi 5 (fun N Q => h = Q ∧ Has N 18 [(0, .ptr (some (bp0, 0))), (13, .bool (p0.EH || p0.AY))]) ?_ ?_
 ·cases B : (p0.EH : Bool) with
  | true =>
   replace H := H.kn 8 B
   exact AO 5 [(13, .bool true)] H fun D H => A8 H B
  | false =>
   replace H := H.kn 8 B
   refine AX 3 [] 12 0 1 A H fun D t H => ?_
   exact AO 1 [(13, .bool p0.AY)] H fun D H => A8 H B
 intro t D Q C
 obtain ⟨e, H⟩ := C
 subst e
 refine Bq id (Ac 13 H M (fun B M H => ?_) fun B M H => ?_)
 ·refine AH 2 (AN 2 [(2, .str ([] : UV)), (3, Ai 10)] H fun D H => AZ ?_)
  obtain ⟨rfl, rfl, rfl⟩ := EG M
  exact ⟨.inl rfl, _, rH H, rfl, A⟩
 refine B3 4 id ?_
 obtain ⟨h1, X, A⟩ := A.s0 1 [.bool true] [_, _, _, _]
 refine Bu 3 [] X H fun D t H => ?_
 refine Bs 3 id ?_
 obtain ⟨x1, X, M⟩ := bind_some M
 obtain ⟨v1, h2, R, rfl, E⟩ := Qx (av := []) X (A.cut 0)
 replace A := A.Dx E
 refine BM 17 R H fun D t H => ?_
 refine AN 2 [(2, .str x1), (3, Ai 0)] H fun D H => AZ ?_
 obtain ⟨rfl, rfl, rfl⟩ := EG M
 exact ⟨.inl rfl, _, rH H, rfl, A⟩
def CI (p0 : List AG) (s : (List UInt8) × Bool × Bool × Int × Int × Int) : Option (((List UInt8) × Bool × Bool × Int × Int × Int) ⊕ (((List UInt8) × Bool × Bool × Int × Int) ⊕ (Bool × Bool × Int × Int × (List UInt8) × Int))) :=
 match s with
 | (x2, x3, x4, x5, x6, x7) => Ao (decide (x7 < (p0.length : Int))) ((Ii p0 x7).bind fun x19 => (CM (⟨x3, x4, x5, x6⟩ : BS) x19 (x19.Data.length : Int)).bind fun (x20, x21, x22) => Ao (x21 != 0) (some (.inr (.inr (x22.EH, x22.AY, x22.Ar, x22.BQ, ([] : UV), x21)))) ((Cx x22 x19.Data).bind fun (x23, x24, x25) => (DV x25).bind fun (x26, x27, x28) => Cl (Hs 1 (x2.length + x20.length)) <| Cl (Hs 1 ((x2 ++ x20).length + x23.length)) <| Cl (Hs 1 (((x2 ++ x20) ++ x23).length + x26.length)) <| some (.inl ((((x2 ++ x20) ++ x23) ++ x26), x28.EH, x28.AY, x28.Ar, x28.BQ, i64.wrap (x7 + 1))))) (some (.inr (.inl (x2, x3, x4, x5, x6))))
def CC (p0 : List AG) : Option ((List UInt8) × Int) :=
 Ao (decide ((p0.length : Int) > 4096)) (some (([] : UV), (8 : Int))) ((Fw).bind fun x1w1 => (loop (CI p0) (([] : UV), x1w1.EH, x1w1.AY, x1w1.Ar, x1w1.BQ, (0 : Int))).bind fun o1 => (match o1 with | .inl (x8, x9, x10, x11, x12) => (DK (⟨x9, x10, x11, x12⟩ : BS)).bind fun (x29, x30, x31) => Cl (Hs 1 (x8.length + x29.length)) <| some ((x8 ++ x29), (0 : Int)) | .inr (x13, x14, x15, x16, x17, x18) => some (x17, x18)))
theorem Gg {p0 rp0 q0 q1} (M : CC p0 = some (q0, q1)) (A : HH g h [.AQ rp0 26 (AQ AE p0)] F) (hc : BP (cfg.still 37) av = [AP rp0 p0.length] := by kernel_rfl) : ∃ v Q, BZ cfg g h 37 av v Q ∧ v = .tuple [.str q0, Ai q1] ∧ HH g Q [.AQ rp0 26 (AQ AE p0)] F := by
 refine EE 67 [.tmp 2, .tmp 3] hc ?_
 clear hc
 unfold CC at M
 refine bg 67 [(0, AP rp0 p0.length)] fun D H => ?_
 refine AH 2 (AN 2 [] H fun D H => AS (AH 3 (AN 3 [(18, .bool (decide ((p0.length : Int) > 4096)))] H fun D H => Ac 18 H M (fun B M H => ?_) fun B M H => ?_)))
 ·refine AH 2 (AN 2 [(2, .str ([] : UV)), (3, Ai 8)] H fun D H => AZ ?_)
  obtain ⟨rfl, rfl⟩ := B4 M
  exact ⟨.inl rfl, _, rH H, rfl, A⟩
 refine B3 2 id ?_
 obtain ⟨x1w1, X, M⟩ := bind_some M
 obtain ⟨v1, h1, R, bx1w1, rfl, E⟩ := K0 (av := []) X (A.cut 0)
 replace A := A.VA E
 refine BM 19 R H fun D t H => ?_
 refine B5 1 [(4, .ptr (some (bx1w1, 0)))] 1 H fun D H => AN 1 [(5, .slice none 0)] H fun D H => AS (AH 3 (AN 3 [(20, AP rp0 p0.length), (21, Ai (p0.length : Int)), (22, Ai 0)] H fun D H => Aa (id := 0) (by kernel_rfl) ?_))
 replace A : HH g h1 [.AQ none 5 (AQ eY ([] : UV)), _, _] F := A.Hv 5
 obtain ⟨o1, O, M⟩ := bind_some M
 refine Bb (Q' := fun e N Q => (∃ x8 x9 x10 x11 x12, e = .exit 0 ∧ .inl (x8, x9, x10, x11, x12) = o1 ∧ ∃ r2, Has N 67 [(4, .ptr (some (bx1w1, 0))), (5, AP r2 x8.length)] ∧ HH g Q [.AQ r2 5 (AQ eY x8), .obj bx1w1 (.cells none 2 [.bool x9, .bool x10, Ai x11, Ai x12]), .AQ rp0 26 (AQ AE p0)] F) ∨ (∃ x13 x14 x15 x16 x17 x18, e = .ret ∧ .inr (x13, x14, x15, x16, x17, x18) = o1 ∧ Has N 67 [(2, .str x17), (3, Ai x18)] ∧ HH g Q [.obj bx1w1 (.cells none 2 [.bool x13, .bool x14, Ai x15, Ai x16]), .AQ rp0 26 (AQ AE p0)] F) ∨ False) ?_ ?_
 ·refine C2 (by kernel_rfl) (fun (s : (List UInt8) × Bool × Bool × Int × Int × Int) N Q => ∃ x2 x3 x4 x5 x6 x7, (x2, x3, x4, x5, x6, x7) = s ∧ ∃ r1, Has N 67 [(4, .ptr (some (bx1w1, 0))), (5, AP r1 x2.length), (20, AP rp0 p0.length), (21, Ai (p0.length : Int)), (22, Ai x7)] ∧ HH g Q [.AQ r1 5 (AQ eY x2), .obj bx1w1 (.cells none 2 [.bool x3, .bool x4, Ai x5, Ai x6]), .AQ rp0 26 (AQ AE p0)] F) O ⟨_, _, _, _, _, _, rfl, none, H.ls, A⟩ ?_
  clear O M H A
  intro s q D h2 V M
  obtain ⟨x2, x3, x4, x5, x6, x7, rfl, r1, H, A⟩ := V
  unfold CI at M
  refine AH 1 (AN 1 [(23, .bool (decide (x7 < (p0.length : Int))))] H fun D H => AS (Ac 23 H M (fun B M H => ?_) fun B M H => ?_))
  ·refine CT id (AS (Aa (id := 1) (by kernel_rfl) ?_))
   refine AH 4 ?_
   obtain ⟨x19, X, M⟩ := bind_some M
   obtain ⟨i1, er1, _, X, U⟩ := HH.Ra CK (by decide) A 2 (xs := p0) rfl X
   refine Ae 24 (.ptr (some (i1, x7.toNat * 14))) h2 H (fun D => .of (G1 (s := CF rp0 p0.length) (by kernel_rfl) X)) fun D t H => ?_
   refine Ae 25 _ _ H (fun D => .of (BX (by kernel_rfl) (IH CK (HH.row A 2 rfl er1) U 0 14 (Nat.le_of_ble_eq_true rfl)))) fun D t H => ?_
   obtain ⟨I, e1, A⟩ := A.pu (.cells none 2 [.str ([] : UV), .str ([] : UV), Ab 0, Ai 0, Ai 0, Ai 0, .str ([] : UV), .str ([] : UV), Ai 0, Ai 0, Ai 0, Ai 0, .slice none 0, .str ([] : UV)])
   refine BU 7 (.ptr (some (h2.size, 0))) e1 H fun D t H => ?_
   obtain ⟨T, X, A⟩ := A.s0 0 (AE x19) [_, _, _, _, _, _, _, _, _, _, _, _, _, _]
   refine C9 X H fun D t H => ?_
   refine Bs 11 id (B0 1 [(27, .ptr (some (bx1w1, 0)))] 28 _ _ H (fun D => .of (BX (by kernel_rfl) (A.Ef 0 rfl (o := 0) (n := 14) ⟨Nat.le_of_ble_eq_true rfl, rfl⟩))) fun D t H => ?_)
   refine AX 1 [] 30 0 13 A H fun D t H => ?_
   replace A := A.k4 2 0 1 3
   obtain ⟨⟨x20, x21, x22⟩, X, M⟩ := bind_some M
   obtain ⟨v1, h5, R, rfl, E⟩ := F0 (av := [.ptr (some (bx1w1, 0)), .agg (AE x19), Ai (x19.Data.length : Int)]) X (A.cut 1)
   replace A := A.g11 E
   refine BC 1 [] 32 R H fun D t H => ?_
   refine AN 5 [(8, .str x20), (9, Ai x21)] H fun D H => AS (AH 2 (AN 2 [(36, .bool (x21 != 0))] H fun D H => Ac 36 H M (fun B M H => ?_) fun B M H => ?_))
   ·refine AH 3 (AN 3 [(2, .str ([] : UV)), (3, Ai x21)] H fun D H => AZ ?_)
    replace A := A.k2 0 3
    exact nr M fun e => Or.inr (.inl ⟨_, _, _, _, _, _, rfl, e, H.ls, A⟩)
   refine B3 9 id (AX 2 [(39, .ptr (some (bx1w1, 0)))] 41 1 13 A H fun D t H => ?_)
   obtain ⟨⟨x23, x24, x25⟩, X, M⟩ := bind_some M
   obtain ⟨v1, h6, R, rfl, E⟩ := GI (av := [.ptr (some (bx1w1, 0)), .str x19.Data]) X (A.cut 1)
   replace A := A.g11 E
   refine BM 42 R H fun D t H => ?_
   refine B5 5 [(10, .str x23)] 7 H fun D H => ?_
   obtain ⟨⟨x26, x27, x28⟩, X, M⟩ := bind_some M
   obtain ⟨v1, Y, R, rfl, E⟩ := GD (av := [.ptr (some (bx1w1, 0))]) X (A.cut 1)
   replace A := A.g11 E
   refine BC 1 [] 47 R H fun D t H => ?_
   refine RW 5 [(12, .str x26)] 8 H fun D H => AO 2 [(50, AP r1 x2.length), (51, .str x20)] H fun D H => ?_
   obtain ⟨B, M⟩ := Aq M
   obtain ⟨r3, h8, X, E⟩ := HH.FN Df (by decide) A 2 (xs := x2) (ys := x20) rfl (FF _ x20) (Df.BP _) rfl B
   replace A : HH g h8 [_, _, .AQ r3 5 (AQ eY (x2 ++ x20)), _] F := E
   refine Ae 52 _ _ H (fun D => .of (DU (s := CF r1 x2.length) (by kernel_rfl) X)) fun D t H => ?_
   refine AO 1 [(53, .str x23)] H fun D H => ?_
   obtain ⟨B, M⟩ := Aq M
   obtain ⟨r4, h9, X, E⟩ := HH.FN Df (by decide) A 2 (xs := (x2 ++ x20)) (ys := x23) rfl (FF _ x23) (Df.BP _) rfl B
   replace A : HH g h9 [_, _, .AQ r4 5 (AQ eY ((x2 ++ x20) ++ x23)), _] F := E
   refine Ae 54 _ _ H (fun D => .of (DU (s := CF r3 ((x2 ++ x20).length)) (by kernel_rfl) X)) fun D t H => ?_
   refine AO 1 [(55, .str x26)] H fun D H => ?_
   obtain ⟨B, M⟩ := Aq M
   obtain ⟨r5, G, X, E⟩ := HH.FN Df (by decide) A 2 (xs := ((x2 ++ x20) ++ x23)) (ys := x26) rfl (FF _ x26) (Df.BP _) rfl B
   replace A : HH g G [_, _, .AQ r5 5 (AQ eY (((x2 ++ x20) ++ x23) ++ x26)), _] F := E
   refine Ae 56 _ _ H (fun D => .of (DU (s := CF r4 (((x2 ++ x20) ++ x23).length)) (by kernel_rfl) X)) fun D t H => ?_
   refine Bv 1 [(4, .ptr (some (bx1w1, 0))), (5, AP r5 ((((x2 ++ x20) ++ x23) ++ x26).length)), (20, AP rp0 p0.length), (21, Ai (p0.length : Int)), (22, Ai x7)] H fun D H => ED 2 id (Bv 2 [(4, .ptr (some (bx1w1, 0))), (5, AP r5 ((((x2 ++ x20) ++ x23) ++ x26).length)), (20, AP rp0 p0.length), (21, Ai (p0.length : Int)), (22, Ai (i64.wrap (x7 + 1)))] H fun D H => at_nil ?_)
   replace A := A.k3 2 0 3
   exact nx M ⟨_, _, _, _, _, _, rfl, _, H.ls, A⟩
  refine Bp (i := 0) (by kernel_rfl) ?_
  exact nr M fun e => .inl ⟨_, _, _, _, _, rfl, e, _, H.ls, A⟩
 clear O
 clear A
 intro e D W J
 rcases J with ⟨x8, x9, x10, x11, x12, rfl, rfl, r2, H, A⟩ | ⟨x13, x14, x15, x16, x17, x18, rfl, rfl, H, A⟩ | K
 ·show AW _ _ _ _ _ _ _
  refine AH 7 ?_
  replace A := A.k3 1 0 2
  obtain ⟨⟨x29, x30, x31⟩, X, M⟩ := bind_some M
  obtain ⟨v1, Z, R, rfl, E⟩ := Fy (av := [.ptr (some (bx1w1, 0))]) X (A.cut 1)
  replace A := A.g11 E
  refine BC 1 [] 60 R H fun D t H => ?_
  refine B5 5 [(14, .str x29)] 6 H fun D H => AO 2 [(63, AP r2 x8.length), (64, .str x29)] H fun D H => ?_
  obtain ⟨B, M⟩ := Aq M
  obtain ⟨r6, S, X, E⟩ := HH.FN Df (by decide) A 1 (xs := x8) (ys := x29) rfl (FF _ x29) (Df.BP _) rfl B
  replace A : HH g S [_, .AQ r6 5 (AQ eY (x8 ++ x29)), _] F := E
  refine Ae 65 _ _ H (fun D => .of (DU (s := CF r2 x8.length) (by kernel_rfl) X)) fun D t H => ?_
  refine Ae 66 (.str (x8 ++ x29)) S H (fun D => .of (Kt (xs := (x8 ++ x29)) A 1 rfl (by kernel_rfl))) fun D t H => ?_
  refine AN 2 [(2, .str (x8 ++ x29)), (3, Ai 0)] H fun D H => AZ ?_
  obtain ⟨rfl, rfl⟩ := B4 M
  refine ⟨.inl rfl, .tuple [.str (x8 ++ x29), Ai 0], rH H, ?_⟩
  replace A := A.k1 2
  exact ⟨rfl, A⟩
 ·obtain ⟨rfl, rfl⟩ := B4 M
  refine ⟨.inl rfl, .tuple [.str x17, Ai x18], rH H, ?_⟩
  replace A := A.k1 1
  exact ⟨rfl, A⟩
 exact K.elim
def Fg (p0 : List AG) (s : (List UInt8) × Bool × Bool × Int × Int × (List AG) × Int) : Option (((List UInt8) × Bool × Bool × Int × Int × (List AG) × Int) ⊕ (((List UInt8) × Bool × Bool × Int × Int × (List AG)) ⊕ (Bool × Bool × Int × Int × (List AG) × (List UInt8) × Int))) :=
 match s with
 | (x2, x3, x4, x5, x6, x7, x8) => Ao (decide (x8 < (p0.length : Int))) ((Ii x7 x8).bind fun x22 => (CM (⟨x3, x4, x5, x6⟩ : BS) x22 (x22.Data.length : Int)).bind fun (x23, x24, x25) => Ao (x24 != 0) (some (.inr (.inr (x25.EH, x25.AY, x25.Ar, x25.BQ, x7, ([] : UV), x24)))) ((Cx x25 x22.Data).bind fun (x26, x27, x28) => (DV x28).bind fun (x29, x30, x31) => Cl (Hs 1 (x2.length + x23.length)) <| Cl (Hs 1 ((x2 ++ x23).length + x26.length)) <| Cl (Hs 1 (((x2 ++ x23) ++ x26).length + x29.length)) <| some (.inl ((((x2 ++ x23) ++ x26) ++ x29), x31.EH, x31.AY, x31.Ar, x31.BQ, x7, i64.wrap (x8 + 1))))) (some (.inr (.inl (x2, x3, x4, x5, x6, x7))))
def EA (p0 : List AG) : Option ((List UInt8) × Int × (List AG)) :=
 Ao (decide ((p0.length : Int) > 4096)) (some (([] : UV), (8 : Int), p0)) ((Fw).bind fun x1w1 => (loop (Fg p0) (([] : UV), x1w1.EH, x1w1.AY, x1w1.Ar, x1w1.BQ, p0, (0 : Int))).bind fun o1 => (match o1 with | .inl (x9, x10, x11, x12, x13, x14) => (DK (⟨x10, x11, x12, x13⟩ : BS)).bind fun (x32, x33, x34) => Cl (Hs 1 (x9.length + x32.length)) <| some ((x9 ++ x32), (0 : Int), x14) | .inr (x15, x16, x17, x18, x19, x20, x21) => some (x20, x21, x19)))
theorem Jg {p0 rp0 tlp0 q0 q1 u0} (M : EA p0 = some (q0, q1, u0)) (A : HH g h [.AQ rp0 26 (AQ AE (p0 ++ tlp0))] F) (hc : BP (cfg.still 37) av = [AP rp0 p0.length] := by kernel_rfl) : ∃ v Q, BZ cfg g h 37 av v Q ∧ ∃ (r'0 : Option Nat) (tl'0 : List AG), v = .tuple [.str q0, Ai q1] ∧ HH g Q [.AQ r'0 26 (AQ AE (u0 ++ tl'0))] F := by
 refine EE 67 [.tmp 2, .tmp 3] hc ?_
 clear hc
 unfold EA at M
 refine bg 67 [(0, AP rp0 p0.length)] fun D H => ?_
 refine AH 2 (AN 2 [] H fun D H => AS (AH 3 (AN 3 [(18, .bool (decide ((p0.length : Int) > 4096)))] H fun D H => Ac 18 H M (fun B M H => ?_) fun B M H => ?_)))
 ·refine AH 2 (AN 2 [(2, .str ([] : UV)), (3, Ai 8)] H fun D H => AZ ?_)
  obtain ⟨rfl, rfl, rfl⟩ := EG M
  exact ⟨.inl rfl, _, rH H, _, _, rfl, A⟩
 refine B3 2 id ?_
 obtain ⟨x1w1, X, M⟩ := bind_some M
 obtain ⟨v1, h1, R, bx1w1, rfl, E⟩ := K0 (av := []) X (A.cut 0)
 replace A := A.VA E
 refine BM 19 R H fun D t H => ?_
 refine B5 1 [(4, .ptr (some (bx1w1, 0)))] 1 H fun D H => AN 1 [(5, .slice none 0)] H fun D H => AS (AH 3 (AN 3 [(20, AP rp0 p0.length), (21, Ai (p0.length : Int)), (22, Ai 0)] H fun D H => Aa (id := 0) (by kernel_rfl) ?_))
 replace A : HH g h1 [.AQ none 5 (AQ eY ([] : UV)), _, _] F := A.Hv 5
 obtain ⟨o1, O, M⟩ := bind_some M
 refine Bb (Q' := fun e N Q => (∃ x9 x10 x11 x12 x13 x14, e = .exit 0 ∧ .inl (x9, x10, x11, x12, x13, x14) = o1 ∧ ∃ r3 r4 tl2, Has N 67 [(4, .ptr (some (bx1w1, 0))), (5, AP r3 x9.length)] ∧ HH g Q [.AQ r3 5 (AQ eY x9), .obj bx1w1 (.cells none 2 [.bool x10, .bool x11, Ai x12, Ai x13]), .AQ r4 26 (AQ AE (x14 ++ tl2))] F) ∨ (∃ x15 x16 x17 x18 x19 x20 x21, e = .ret ∧ .inr (x15, x16, x17, x18, x19, x20, x21) = o1 ∧ ∃ r5 tl3, Has N 67 [(2, .str x20), (3, Ai x21)] ∧ HH g Q [.obj bx1w1 (.cells none 2 [.bool x15, .bool x16, Ai x17, Ai x18]), .AQ r5 26 (AQ AE (x19 ++ tl3))] F) ∨ False) ?_ ?_
 ·refine C2 (by kernel_rfl) (fun (s : (List UInt8) × Bool × Bool × Int × Int × (List AG) × Int) N Q => ∃ x2 x3 x4 x5 x6 x7 x8, (x2, x3, x4, x5, x6, x7, x8) = s ∧ ∃ r1 r2 tl1, Has N 67 [(4, .ptr (some (bx1w1, 0))), (5, AP r1 x2.length), (20, AP r2 x7.length), (21, Ai (p0.length : Int)), (22, Ai x8)] ∧ HH g Q [.AQ r1 5 (AQ eY x2), .obj bx1w1 (.cells none 2 [.bool x3, .bool x4, Ai x5, Ai x6]), .AQ r2 26 (AQ AE (x7 ++ tl1))] F) O ⟨_, _, _, _, _, _, _, rfl, none, rp0, tlp0, H.ls, A⟩ ?_
  clear O M H A
  intro s q D h2 V M
  obtain ⟨x2, x3, x4, x5, x6, x7, x8, rfl, r1, r2, tl1, H, A⟩ := V
  unfold Fg at M
  refine AH 1 (AN 1 [(23, .bool (decide (x8 < (p0.length : Int))))] H fun D H => AS (Ac 23 H M (fun B M H => ?_) fun B M H => ?_))
  ·refine CT id (AS (Aa (id := 1) (by kernel_rfl) ?_))
   refine AH 4 ?_
   obtain ⟨x22, X, M⟩ := bind_some M
   obtain ⟨i1, er1, _, X, U⟩ := HH.Z2 CK (by decide) A 2 (xs := x7) (tl := tl1) rfl X
   refine Ae 24 (.ptr (some (i1, x8.toNat * 14))) h2 H (fun D => .of (G1 (s := CF r2 x7.length) (by kernel_rfl) X)) fun D t H => ?_
   refine Ae 25 _ _ H (fun D => .of (BX (by kernel_rfl) (IH CK (HH.row A 2 rfl er1) U 0 14 (Nat.le_of_ble_eq_true rfl)))) fun D t H => ?_
   obtain ⟨I, e1, A⟩ := A.pu (.cells none 2 [.str ([] : UV), .str ([] : UV), Ab 0, Ai 0, Ai 0, Ai 0, .str ([] : UV), .str ([] : UV), Ai 0, Ai 0, Ai 0, Ai 0, .slice none 0, .str ([] : UV)])
   refine BU 7 (.ptr (some (h2.size, 0))) e1 H fun D t H => ?_
   obtain ⟨T, X, A⟩ := A.s0 0 (AE x22) [_, _, _, _, _, _, _, _, _, _, _, _, _, _]
   refine C9 X H fun D t H => ?_
   refine Bs 11 id (B0 1 [(27, .ptr (some (bx1w1, 0)))] 28 _ _ H (fun D => .of (BX (by kernel_rfl) (A.Ef 0 rfl (o := 0) (n := 14) ⟨Nat.le_of_ble_eq_true rfl, rfl⟩))) fun D t H => ?_)
   refine AX 1 [] 30 0 13 A H fun D t H => ?_
   replace A := A.k4 2 0 1 3
   obtain ⟨⟨x23, x24, x25⟩, X, M⟩ := bind_some M
   obtain ⟨v1, h5, R, rfl, E⟩ := F0 (av := [.ptr (some (bx1w1, 0)), .agg (AE x22), Ai (x22.Data.length : Int)]) X (A.cut 1)
   replace A := A.g11 E
   refine BC 1 [] 32 R H fun D t H => ?_
   refine AN 5 [(8, .str x23), (9, Ai x24)] H fun D H => AS (AH 2 (AN 2 [(36, .bool (x24 != 0))] H fun D H => Ac 36 H M (fun B M H => ?_) fun B M H => ?_))
   ·refine AH 3 (AN 3 [(2, .str ([] : UV)), (3, Ai x24)] H fun D H => AZ ?_)
    replace A := A.k2 0 3
    exact nr M fun e => Or.inr (.inl ⟨_, _, _, _, _, _, _, rfl, e, _, tl1, H.ls, A⟩)
   refine B3 9 id (AX 2 [(39, .ptr (some (bx1w1, 0)))] 41 1 13 A H fun D t H => ?_)
   obtain ⟨⟨x26, x27, x28⟩, X, M⟩ := bind_some M
   obtain ⟨v1, h6, R, rfl, E⟩ := GI (av := [.ptr (some (bx1w1, 0)), .str x22.Data]) X (A.cut 1)
   replace A := A.g11 E
   refine BM 42 R H fun D t H => ?_
   refine B5 5 [(10, .str x26)] 7 H fun D H => ?_
   obtain ⟨⟨x29, x30, x31⟩, X, M⟩ := bind_some M
   obtain ⟨v1, Y, R, rfl, E⟩ := GD (av := [.ptr (some (bx1w1, 0))]) X (A.cut 1)
   replace A := A.g11 E
   refine BC 1 [] 47 R H fun D t H => ?_
   refine RW 5 [(12, .str x29)] 8 H fun D H => AO 2 [(50, AP r1 x2.length), (51, .str x23)] H fun D H => ?_
   obtain ⟨B, M⟩ := Aq M
   obtain ⟨r6, h8, X, E⟩ := HH.FN Df (by decide) A 2 (xs := x2) (ys := x23) rfl (FF _ x23) (Df.BP _) rfl B
   replace A : HH g h8 [_, _, .AQ r6 5 (AQ eY (x2 ++ x23)), _] F := E
   refine Ae 52 _ _ H (fun D => .of (DU (s := CF r1 x2.length) (by kernel_rfl) X)) fun D t H => ?_
   refine AO 1 [(53, .str x26)] H fun D H => ?_
   obtain ⟨B, M⟩ := Aq M
   obtain ⟨r7, h9, X, E⟩ := HH.FN Df (by decide) A 2 (xs := (x2 ++ x23)) (ys := x26) rfl (FF _ x26) (Df.BP _) rfl B
   replace A : HH g h9 [_, _, .AQ r7 5 (AQ eY ((x2 ++ x23) ++ x26)), _] F := E
   refine Ae 54 _ _ H (fun D => .of (DU (s := CF r6 ((x2 ++ x23).length)) (by kernel_rfl) X)) fun D t H => ?_
   refine AO 1 [(55, .str x29)] H fun D H => ?_
   obtain ⟨B, M⟩ := Aq M
   obtain ⟨r8, G, X, E⟩ := HH.FN Df (by decide) A 2 (xs := ((x2 ++ x23) ++ x26)) (ys := x29) rfl (FF _ x29) (Df.BP _) rfl B
   replace A : HH g G [_, _, .AQ r8 5 (AQ eY (((x2 ++ x23) ++ x26) ++ x29)), _] F := E
   refine Ae 56 _ _ H (fun D => .of (DU (s := CF r7 (((x2 ++ x23) ++ x26).length)) (by kernel_rfl) X)) fun D t H => ?_
   refine Bv 1 [(4, .ptr (some (bx1w1, 0))), (5, AP r8 ((((x2 ++ x23) ++ x26) ++ x29).length)), (20, AP r2 x7.length), (21, Ai (p0.length : Int)), (22, Ai x8)] H fun D H => ED 2 id (Bv 2 [(4, .ptr (some (bx1w1, 0))), (5, AP r8 ((((x2 ++ x23) ++ x26) ++ x29).length)), (20, AP r2 x7.length), (21, Ai (p0.length : Int)), (22, Ai (i64.wrap (x8 + 1)))] H fun D H => at_nil ?_)
   replace A := A.k3 2 0 3
   exact nx M ⟨_, _, _, _, _, _, _, rfl, _, _, tl1, H.ls, A⟩
  refine Bp (i := 0) (by kernel_rfl) ?_
  exact nr M fun e => .inl ⟨_, _, _, _, _, _, rfl, e, _, _, tl1, H.ls, A⟩
 clear O
 clear A
 intro e D W J
 rcases J with ⟨x9, x10, x11, x12, x13, x14, rfl, rfl, r3, r4, tl2, H, A⟩ | ⟨x15, x16, x17, x18, x19, x20, x21, rfl, rfl, r5, tl3, H, A⟩ | K
 ·show AW _ _ _ _ _ _ _
  refine AH 7 ?_
  replace A := A.k3 1 0 2
  obtain ⟨⟨x32, x33, x34⟩, X, M⟩ := bind_some M
  obtain ⟨v1, Z, R, rfl, E⟩ := Fy (av := [.ptr (some (bx1w1, 0))]) X (A.cut 1)
  replace A := A.g11 E
  refine BC 1 [] 60 R H fun D t H => ?_
  refine B5 5 [(14, .str x32)] 6 H fun D H => AO 2 [(63, AP r3 x9.length), (64, .str x32)] H fun D H => ?_
  obtain ⟨B, M⟩ := Aq M
  obtain ⟨r9, S, X, E⟩ := HH.FN Df (by decide) A 1 (xs := x9) (ys := x32) rfl (FF _ x32) (Df.BP _) rfl B
  replace A : HH g S [_, .AQ r9 5 (AQ eY (x9 ++ x32)), _] F := E
  refine Ae 65 _ _ H (fun D => .of (DU (s := CF r3 x9.length) (by kernel_rfl) X)) fun D t H => ?_
  refine Ae 66 (.str (x9 ++ x32)) S H (fun D => .of (Kt (xs := (x9 ++ x32)) A 1 rfl (by kernel_rfl))) fun D t H => ?_
  refine AN 2 [(2, .str (x9 ++ x32)), (3, Ai 0)] H fun D H => AZ ?_
  obtain ⟨rfl, rfl, rfl⟩ := EG M
  refine ⟨.inl rfl, .tuple [.str (x9 ++ x32), Ai 0], rH H, ?_⟩
  replace A := A.k1 2
  exact ⟨r4, tl2, rfl, A⟩
 ·obtain ⟨rfl, rfl, rfl⟩ := EG M
  refine ⟨.inl rfl, .tuple [.str x20, Ai x21], rH H, ?_⟩
  replace A := A.k1 1
  exact ⟨r5, tl3, rfl, A⟩
 exact K.elim
def LM : Option (AU) :=
 some (⟨([] : List (List UInt8)), ([] : UV), (0 : Int), false⟩ : AU)
theorem Qs {q00} (M : LM = some q00) (A : HH g h [] F) (hc : BP (cfg.still 148) av = [] := by kernel_rfl) : ∃ v Q, BZ cfg g h 148 av v Q ∧ ∃ (bq00 : Nat) (bq00_0 : Nat), v = .ptr (some (bq00, 0)) ∧ HH g Q [.obj bq00 (.cells none 2 [.chan (some bq00_0), .str q00.Bz, Ai q00.Ar, .bool q00.AY]), .obj bq00_0 (.chan 64 (AQ eS q00.BL))] F := by
 refine EE 4 [.tmp 0] hc ?_
 clear hc
 unfold LM at M
 refine bg 4 [] fun D H => ?_
 refine AH 1 (B5 1 [] 4 H fun D H => ?_)
 obtain ⟨h1, e1⟩ : ∃ x, x = h.push (.chan 64 []) := ⟨_, rfl⟩
 replace A : HH g h1 [.obj h.size (.chan 64 (AQ eS ([] : List (List UInt8))))] F := (A.push _).to e1
 refine BU 1 (.chan (some h.size)) e1 H fun D t H => ?_
 obtain ⟨h2, e2, A⟩ := A.pu (.cells none 2 [.chan (some h.size), .str ([] : UV), Ai 0, .bool false])
 refine K2 1 [] 3 (.ptr (some (h1.size, 0))) e2 H fun D t H => ?_
 refine AN 1 [(0, .ptr (some (h1.size, 0)))] H fun D H => AZ ?_
 obtain rfl := BB M
 exact ⟨.inl rfl, _, rH H, _, _, rfl, A⟩
def G4 (p0 : CW) : Option ((Option AV) × Int) :=
 Ao ((((decide (p0.Head < 1)) || (decide (p0.Head > 65536))) || (decide (p0.Name < 1))) || (decide (p0.Name > 4096))) (some (none, (6 : Int))) ((LM).bind fun x1w1 => some (some (⟨p0, x1w1, (0 : Int), (0 : Int), (0 : Int), false, (0 : Int), (0 : Int), (⟨([] : UV), ([] : UV), (0 : Int), (0 : Int), (0 : Int), (0 : Int), (0 : Int), (0 : Int), ([] : UV), ([] : UV), (0 : Int), (0 : Int), (0 : Int)⟩ : AL), (0 : Int), ([] : UV), (⟨([] : List AA), ([] : UV), ([] : UV), false, false, false⟩ : Ap), ([] : List AA)⟩ : AV), (0 : Int)))
theorem Ob {p0 o0 q1} (M : G4 p0 = some (o0, q1)) (A : HH g h [] F) (hc : BP (cfg.still 87) av = [.agg [Ai p0.Head, Ai p0.Name]] := by kernel_rfl) : ∃ v Q, BZ cfg g h 87 av v Q ∧ ((∃ (bq00 : Nat) (bq00_2 : Nat) (bq00_2_0 : Nat) (rq00_23 : Option Nat) (q00 : AV), o0 = some q00 ∧ v = .tuple [.ptr (some (bq00, 0)), Ai q1] ∧ HH g Q [.obj bq00 (.cells none 2 [Ai q00.Aw.Head, Ai q00.Aw.Name, .ptr (some (bq00_2, 0)), Ai q00.BE, Ai q00.BQ, Ai q00.at_, .bool q00.BD, Ai q00.BG, Ai q00.BH, .str q00.AD.Name, .str q00.AD.A9, Ab q00.AD.Kind, Ai q00.AD.Mode, Ai q00.AD.Cz, Ai q00.AD.Ct, Ai q00.AD.Bg, Ai q00.AD.Time, .str q00.AD.Ah, .str q00.AD.Aj, Ai q00.AD.Au, Ai q00.AD.As, Ai q00.AD.Form, Ai q00.BI, AP rq00_23 q00.DR.length, .slice none 0, .str q00.AM.Ba, .str q00.AM.Be, .bool q00.AM.Ag, .bool q00.AM.Af, .bool q00.AM.Ak, .slice none 0]), .obj bq00_2 (.cells none 2 [.chan (some bq00_2_0), .str q00.Az.Bz, Ai q00.Az.Ar, .bool q00.Az.AY]), .obj bq00_2_0 (.chan 64 (AQ eS q00.Az.BL)), .AQ rq00_23 5 (AQ eY q00.DR)] F) ∨ (o0 = none ∧ v = .tuple [.ptr none, Ai q1] ∧ HH g Q [] F)) := by
 refine EE 26 [.tmp 2, .tmp 3] hc ?_
 clear hc
 unfold G4 at M
 refine bg 26 [(0, .agg [Ai p0.Head, Ai p0.Name])] fun D H => ?_
 refine AH 3 ?_
 obtain ⟨h1, e1, A⟩ := A.pu (.cells none 2 [Ai p0.Head, Ai p0.Name])
 refine BU 1 (.ptr (some (h.size, 0))) e1 H fun D t H => ?_
 refine AN 2 [] H fun D H => AS (AH 18 (AX 1 [] 5 0 0 A H fun D t H => ?_))
 refine AO 2 [(7, .bool (decide (p0.Head < 1)))] H fun D H => Bi 4 (fun N Q => h1 = Q ∧ Has N 26 [(1, .ptr (some (h.size, 0))), (11, .bool ((decide (p0.Head < 1)) || (decide (p0.Head > 65536))))]) ?_ ?_
 ·cases B : (decide (p0.Head < 1) : Bool) with
  | true =>
   replace H := H.kn 7 B
   exact AO 4 [(11, .bool true)] H fun D H => A8 H B
  | false =>
   replace H := H.kn 7 B
   refine AX 1 [] 9 0 0 A H fun D t H => ?_
   exact AO 2 [(11, .bool (decide (p0.Head > 65536)))] H fun D H => A8 H B
 intro t D Q C
 obtain ⟨e, H⟩ := C
 subst e
 refine AO 1 [(12, .bool ((decide (p0.Head < 1)) || (decide (p0.Head > 65536))))] H fun D H => Bi 4 (fun N Q => h1 = Q ∧ Has N 26 [(1, .ptr (some (h.size, 0))), (16, .bool (((decide (p0.Head < 1)) || (decide (p0.Head > 65536))) || (decide (p0.Name < 1))))]) ?_ ?_
 ·cases B : ((decide (p0.Head < 1)) || (decide (p0.Head > 65536)) : Bool) with
  | true =>
   replace H := H.kn 12 B
   exact AO 4 [(16, .bool true)] H fun D H => A8 H B
  | false =>
   replace H := H.kn 12 B
   refine AX 1 [] 14 0 1 A H fun D t H => ?_
   exact AO 2 [(16, .bool (decide (p0.Name < 1)))] H fun D H => A8 H B
 intro t D Q C
 obtain ⟨e, H⟩ := C
 subst e
 refine AO 1 [(17, .bool (((decide (p0.Head < 1)) || (decide (p0.Head > 65536))) || (decide (p0.Name < 1))))] H fun D H => Bi 4 (fun N Q => h1 = Q ∧ Has N 26 [(1, .ptr (some (h.size, 0))), (21, .bool ((((decide (p0.Head < 1)) || (decide (p0.Head > 65536))) || (decide (p0.Name < 1))) || (decide (p0.Name > 4096))))]) ?_ ?_
 ·cases B : (((decide (p0.Head < 1)) || (decide (p0.Head > 65536))) || (decide (p0.Name < 1)) : Bool) with
  | true =>
   replace H := H.kn 17 B
   exact AO 4 [(21, .bool true)] H fun D H => A8 H B
  | false =>
   replace H := H.kn 17 B
   refine AX 1 [] 19 0 1 A H fun D t H => ?_
   exact AO 2 [(21, .bool (decide (p0.Name > 4096)))] H fun D H => A8 H B
 intro t D Q C
 obtain ⟨e, H⟩ := C
 subst e
 refine Bq id (Ac 21 H M (fun B M H => ?_) fun B M H => ?_)
 ·refine AH 2 (AN 2 [(2, .ptr none), (3, Ai 6)] H fun D H => AZ ?_)
  obtain ⟨rfl, rfl⟩ := B4 M
  refine ⟨.inl rfl, .tuple [.ptr none, Ai 6], rH H, ?_⟩
  replace A := A.d0
  exact .inr ⟨rfl, rfl, A⟩
 refine CT id (AS (J2 3 6 [(0, []), (1, [0]), (2, []), (3, []), (4, []), (5, [])] ?_))
 refine C3 22 (.agg [Ai p0.Head, Ai p0.Name]) h1 [(0, h.size)] (g.CD) H (fun D => .of (BX (by kernel_rfl) (A.la 0 0 2))) (fun D H => ?_)
 have E := A.Hw 0 (pr := [h.size]) (.cons 0 rfl (by simp [Ck.ids]) .nil)
 obtain ⟨x1w1, X, M⟩ := bind_some M
 obtain ⟨v1, h2, R, bx1w1, bx1w1_0, rfl, E⟩ := Qs (av := []) X E
 replace A : HH g h2 [.obj bx1w1 (.cells none 2 [.chan (some bx1w1_0), .str x1w1.Bz, Ai x1w1.Ar, .bool x1w1.AY]), .obj bx1w1_0 (.chan 64 (AQ eS x1w1.BL)), .obj h.size (.cells none 2 [Ai p0.Head, Ai p0.Name])] F := A.Ot (n := 0) E
 refine C3 23 (.ptr (some (bx1w1, 0))) h2 [(0, h.size)] (h.size :: g.CD) H (fun D => Steps.call (by kernel_rfl) R) (fun D H => ?_)
 refine AO 1 [(24, .agg [Ai p0.Head, Ai p0.Name, .ptr (some (bx1w1, 0)), Ai 0, Ai 0, Ai 0, .bool false, Ai 0, Ai 0, .str ([] : UV), .str ([] : UV), Ab 0, Ai 0, Ai 0, Ai 0, Ai 0, Ai 0, .str ([] : UV), .str ([] : UV), Ai 0, Ai 0, Ai 0, Ai 0, .slice none 0, .slice none 0, .str ([] : UV), .str ([] : UV), .bool false, .bool false, .bool false, .slice none 0])] H fun D H => ?_
 obtain ⟨I, e2, A⟩ := A.pu (.cells none 2 [Ai p0.Head, Ai p0.Name, .ptr (some (bx1w1, 0)), Ai 0, Ai 0, Ai 0, .bool false, Ai 0, Ai 0, .str ([] : UV), .str ([] : UV), Ab 0, Ai 0, Ai 0, Ai 0, Ai 0, Ai 0, .str ([] : UV), .str ([] : UV), Ai 0, Ai 0, Ai 0, Ai 0, .slice none 0, .slice none 0, .str ([] : UV), .str ([] : UV), .bool false, .bool false, .bool false, .slice none 0])
 refine C3 25 (.ptr (some (h2.size, 0))) I [(3, h2.size), (0, h.size)] (g.CD) H (fun D => .of (TQ (by kernel_rfl) (congrArg some e2.symm))) (fun D H => ?_)
 refine AN 2 [(2, .ptr (some (h2.size, 0))), (3, Ai 0)] H fun D H => AZ ?_
 obtain ⟨rfl, rfl⟩ := B4 M
 refine ⟨.inl rfl, .tuple [.ptr (some (h2.size, 0)), Ai 0], rH H, ?_⟩
 replace A : HH g I [.AQ none 5 (AQ eY ([] : UV)), .obj h2.size (.cells none 2 [Ai p0.Head, Ai p0.Name, .ptr (some (bx1w1, 0)), Ai 0, Ai 0, Ai 0, .bool false, Ai 0, Ai 0, .str ([] : UV), .str ([] : UV), Ab 0, Ai 0, Ai 0, Ai 0, Ai 0, Ai 0, .str ([] : UV), .str ([] : UV), Ai 0, Ai 0, Ai 0, Ai 0, AP none (([] : UV).length), .slice none 0, .str ([] : UV), .str ([] : UV), .bool false, .bool false, .bool false, .slice none 0]), _, _, _] F := A.Hv 5
 replace A := A.k4 1 2 3 0
 exact .inl ⟨h2.size, bx1w1, bx1w1_0, none, (⟨p0, x1w1, (0 : Int), (0 : Int), (0 : Int), false, (0 : Int), (0 : Int), (⟨([] : UV), ([] : UV), (0 : Int), (0 : Int), (0 : Int), (0 : Int), (0 : Int), (0 : Int), ([] : UV), ([] : UV), (0 : Int), (0 : Int), (0 : Int)⟩ : AL), (0 : Int), ([] : UV), (⟨([] : List AA), ([] : UV), ([] : UV), false, false, false⟩ : Ap), ([] : List AA)⟩ : AV), rfl, rfl, A⟩
def Cv (p0 : AU) : Option (Int) :=
 (Ao (!(p0.Bz == ([] : UV))) (some (i64.wrap ((p0.BL.length : Int) + 1))) (some (p0.BL.length : Int)) : Option ((Int))).bind fun x1 => some x1
theorem Ia {p0 bp0 bp0_0 q0} (M : Cv p0 = some q0) (A : HH g h [.obj bp0 (.cells none 2 [.chan (some bp0_0), .str p0.Bz, Ai p0.Ar, .bool p0.AY]), .obj bp0_0 (.chan 64 (AQ eS p0.BL))] F) (hc : BP (cfg.still 200) av = [.ptr (some (bp0, 0))] := by kernel_rfl) : ∃ v Q, BZ cfg g h 200 av v Q ∧ v = Ai q0 ∧ HH g Q [.obj bp0 (.cells none 2 [.chan (some bp0_0), .str p0.Bz, Ai p0.Ar, .bool p0.AY]), .obj bp0_0 (.chan 64 (AQ eS p0.BL))] F := by
 refine EE 17 [.tmp 2] hc ?_
 clear hc
 unfold Cv at M
 refine bg 17 [(0, .ptr (some (bp0, 0)))] fun D H => ?_
 refine AH 1 (B5 1 [] 6 H fun D H => AX 3 [] 7 0 0 A H fun D t H => ?_)
 refine Ae 8 (Ai (p0.BL.length : Int)) h H (fun D => .of (XQ (by kernel_rfl) (HH.Xt encS A 1 rfl).1 (HH.Xt encS A 1 (xs := p0.BL) rfl).2)) fun D t H => ?_
 refine AN 1 [(3, Ai (p0.BL.length : Int))] H fun D H => AS ?_
 obtain ⟨o1, O, M⟩ := bind_some M
 refine Bb (Q' := fun e N Q => (∃ x1, e = .normal ∧ x1 = o1 ∧ Has N 17 [(3, Ai x1)] ∧ HH g Q [.obj bp0 (.cells none 2 [.chan (some bp0_0), .str p0.Bz, Ai p0.Ar, .bool p0.AY]), .obj bp0_0 (.chan 64 (AQ eS p0.BL))] F) ∨ False) ?_ ?_
 ·replace M := O
  clear O
  refine AH 5 (AX 3 [] 12 0 1 A H fun D t H => ?_)
  refine AN 1 [(13, .bool (!(p0.Bz == ([] : UV))))] H fun D H => Ac 13 H M (fun B M H => ?_) fun B M H => ?_
  ·refine CE 3 (Bv 3 [(3, Ai (i64.wrap ((p0.BL.length : Int) + 1)))] H fun D H => at_nil ?_)
   exact .inl ⟨_, rfl, BB M, H.ls, A⟩
  exact EJ (.inl ⟨_, rfl, BB M, H.ls, A⟩)
 clear O
 clear A
 intro e D h1 J
 rcases J with ⟨x1, rfl, rfl, H, A⟩ | K
 ·show AW _ _ _ _ _ _ _
  refine AH 2 (AN 2 [(2, Ai x1)] H fun D H => AZ ?_)
  obtain rfl := BB M
  exact ⟨.inl rfl, _, rH H, rfl, A⟩
 exact K.elim
def CA (p0 : AU) (p1 : List UInt8) : Option (Int × AU × (List (List UInt8))) :=
 Ao (decide ((p1.length : Int) > 65536)) (some ((12 : Int), p0, p0.BL)) (Ao p0.AY (some ((10 : Int), p0, p0.BL)) (Ao ((p1.length : Int) == 0) (some ((0 : Int), p0, p0.BL)) ((Cv p0).bind fun x1 => Ao (decide (x1 ≥ 64)) (some ((8 : Int), p0, p0.BL)) (Ao (Nat.blt p0.BL.length 64) (some ((0 : Int), (⟨(p0.BL ++ [p1]), p0.Bz, i64.wrap (p0.Ar + (p1.length : Int)), p0.AY⟩ : AU), (p0.BL ++ [p1]))) (some ((8 : Int), p0, p0.BL))))))
theorem JO {p0 p1 bp0 bp0_0 q0 u0 u1} (M : CA p0 p1 = some (q0, u0, u1)) (A : HH g h [.obj bp0 (.cells none 2 [.chan (some bp0_0), .str p0.Bz, Ai p0.Ar, .bool p0.AY]), .obj bp0_0 (.chan 64 (AQ eS p0.BL))] F) (hc : BP (cfg.still 149) av = [.ptr (some (bp0, 0)), vs eY p1] := by kernel_rfl) : ∃ v Q, BZ cfg g h 149 av v Q ∧ v = Ai q0 ∧ HH g Q [.obj bp0 (.cells none 2 [.chan (some bp0_0), .str u0.Bz, Ai u0.Ar, .bool u0.AY]), .obj bp0_0 (.chan 64 (AQ eS u1))] F := by
 refine Ze 40 [.tmp 4] hc ?_
 clear hc
 unfold CA at M
 refine Zc 40 [(0, .ptr (some (bp0, 0))), (1, vs eY p1)] fun D H => ?_
 refine IG (by kernel_rfl) ?_
 refine IS (by kernel_rfl) ?_
 refine CE 1 (AO 1 [] H fun D H => at_nil ?_)
 show OJ cfg 149 g (right (DS cfg.P 149)) D h _
 refine IG (by kernel_rfl) ?_
 refine IS (by kernel_rfl) ?_
 refine Aa (id := 0) (by kernel_rfl) ?_
 refine AH 4 (AN 4 [(5, .bool (decide ((p1.length : Int) > 65536)))] H fun D H => Ac 5 H M (fun B M H => ?_) fun B M H => ?_)
 ·refine AH 1 (AN 1 [(4, Ai 12)] H fun D H => AZ ?_)
  obtain ⟨rfl, rfl, rfl⟩ := EG M
  exact ⟨.inl rfl, _, rH H, rfl, A⟩
 refine AH 5 (AX 3 [] 13 0 3 A H fun D t H => ?_)
 refine AN 1 [(9, .bool p0.AY)] H fun D H => Ac 9 H M (fun B M H => ?_) fun B M H => ?_
 ·refine AH 1 (AN 1 [(4, Ai 10)] H fun D H => AZ ?_)
  obtain ⟨rfl, rfl, rfl⟩ := EG M
  exact ⟨.inl rfl, _, rH H, rfl, A⟩
 refine AH 4 (AN 4 [(14, .bool ((p1.length : Int) == 0))] H fun D H => Ac 14 H M (fun B M H => ?_) fun B M H => ?_)
 ·refine AH 1 (AN 1 [(4, Ai 0)] H fun D H => AZ ?_)
  obtain ⟨rfl, rfl, rfl⟩ := EG M
  exact ⟨.inl rfl, _, rH H, rfl, A⟩
 refine AH 4 ?_
 obtain ⟨x1, X, M⟩ := bind_some M
 obtain ⟨v1, h1, R, rfl, E⟩ := Ia (av := [.ptr (some (bp0, 0))]) X (A.cut 2)
 replace A := A.g22 E
 refine BC 1 [] 20 R H fun D t H => ?_
 refine AN 2 [(18, .bool (decide (x1 ≥ 64)))] H fun D H => Ac 18 H M (fun B M H => ?_) fun B M H => ?_
 ·refine AH 1 (AN 1 [(4, Ai 8)] H fun D H => AZ ?_)
  obtain ⟨rfl, rfl, rfl⟩ := EG M
  exact ⟨.inl rfl, _, rH H, rfl, A⟩
 refine EJ ?_
 show OJ cfg 149 g (right (right (DS cfg.P 149))) D h1 _
 refine IG (by kernel_rfl) ?_
 refine IG (by kernel_rfl) ?_
 refine IS (by kernel_rfl) ?_
 refine CE 4 (AX 3 [] 25 0 0 A H fun D t H => ?_)
 refine at_nil ?_
 show OJ cfg 149 g (right (left (right (right (DS cfg.P 149))))) D h1 _
 refine IS (by kernel_rfl) ?_
 refine CE 2 (AO 1 [(26, vs eY p1)] H fun D H => Ae 27 (.str p1) h1 H (fun D => .of (YH (by kernel_rfl))) fun D t H => ?_)
 refine at_nil ?_
 show OJ cfg 149 g (right (right (right (DS cfg.P 149)))) D h1 _
 refine IG (by kernel_rfl) ?_
 rcases BT M with ⟨B, M⟩ | ⟨B, M⟩
 ·obtain ⟨h2, X, E⟩ := HH.Ur encS A 1 (xs := p0.BL) (x := p1) (v := .str p1) rfl rfl B
  replace A : HH g h2 [_, .obj bp0_0 (.chan 64 (AQ eS (p0.BL ++ [p1])))] F := E
  refine NC (id := 11) (n := 2) (v := .tuple [Ai 0, .bool false]) [(1, []), (2, [])] [(0, .ptr (some (bp0, 0))), (1, vs eY p1), (28, .tuple [Ai 0, .bool false])] (by kernel_rfl) (by kernel_rfl) (by kernel_rfl) H (fun D => Qf (by kernel_rfl) X) (fun D => by kernel_rfl) ?_
  intro D H
  refine AO 2 [(30, .bool true)] H fun D H => at_nil ?_
  show OJ cfg 149 g (right (right (right (right (DS cfg.P 149))))) D h2 _
  refine IS (by kernel_rfl) ?_
  refine Aa (id := 1) (by kernel_rfl) ?_
  refine C8 (x := .tmp 30) (by kernel_rfl) H (fun D => by kernel_rfl) ?_
  refine AH 10 (AX 3 [(31, .ptr (some (bp0, 0)))] 34 0 2 A H fun D t H => ?_)
  obtain ⟨I, X, A⟩ := A.s0 2 [Ai (i64.wrap (p0.Ar + (p1.length : Int)))] [_, _, _, _]
  refine Bu 5 [] X H fun D t H => ?_
  refine Bs 1 id (AN 1 [(4, Ai 0)] H fun D H => AZ ?_)
  obtain ⟨rfl, rfl, rfl⟩ := EG M
  exact ⟨.inl rfl, _, rH H, rfl, A⟩
 have X := HH.T9 encS A 1 (xs := p0.BL) (v := .str p1) rfl B
 refine NC (id := 11) (n := 2) (v := .tuple [Ai (-1), .bool false]) [(1, []), (2, [])] [(0, .ptr (some (bp0, 0))), (1, vs eY p1), (28, .tuple [Ai (-1), .bool false])] (by kernel_rfl) (by kernel_rfl) (by kernel_rfl) H (fun D => Qf (by kernel_rfl) X) (fun D => by kernel_rfl) ?_
 intro D H
 refine AO 2 [(30, .bool false)] H fun D H => at_nil ?_
 show OJ cfg 149 g (right (right (right (right (DS cfg.P 149))))) D h1 _
 refine IS (by kernel_rfl) ?_
 refine Aa (id := 1) (by kernel_rfl) ?_
 refine ER (x := .tmp 30) (by kernel_rfl) H (fun D => by kernel_rfl) ?_
 refine AH 1 (AN 1 [(4, Ai 8)] H fun D H => AZ ?_)
 obtain ⟨rfl, rfl, rfl⟩ := EG M
 exact ⟨.inl rfl, _, rH H, rfl, A⟩
def Du (p0 : AU) : Option (Bool × AU × (List (List UInt8))) :=
 Ao (p0.BL.isEmpty) (some (false, p0, p0.BL)) ((Yj p0.BL).bind fun (x1, x2) => some (true, (⟨x2, x1, p0.Ar, p0.AY⟩ : AU), x2))
theorem JL {p0 bp0 bp0_0 q0 u0 u1} (M : Du p0 = some (q0, u0, u1)) (A : HH g h [.obj bp0 (.cells none 2 [.chan (some bp0_0), .str p0.Bz, Ai p0.Ar, .bool p0.AY]), .obj bp0_0 (.chan 64 (AQ eS p0.BL))] F) (hc : BP (cfg.still 204) av = [.ptr (some (bp0, 0))] := by kernel_rfl) : ∃ v Q, BZ cfg g h 204 av v Q ∧ v = .bool q0 ∧ HH g Q [.obj bp0 (.cells none 2 [.chan (some bp0_0), .str u0.Bz, Ai u0.Ar, .bool u0.AY]), .obj bp0_0 (.chan 64 (AQ eS u1))] F := by
 refine Ze 14 [.tmp 2] hc ?_
 clear hc
 unfold Du at M
 refine Zc 14 [(0, .ptr (some (bp0, 0)))] fun D H => ?_
 refine IG (by kernel_rfl) ?_
 refine IS (by kernel_rfl) ?_
 refine CE 1 (AO 1 [] H fun D H => at_nil ?_)
 show OJ cfg 204 g (right (DS cfg.P 204)) D h _
 refine IG (by kernel_rfl) ?_
 refine IS (by kernel_rfl) ?_
 refine CE 4 (AX 3 [] 6 0 0 A H fun D t H => ?_)
 refine at_nil ?_
 show OJ cfg 204 g (right (right (DS cfg.P 204))) D h _
 refine IG (by kernel_rfl) ?_
 rcases BT M with ⟨B, M⟩ | ⟨B, M⟩
 ·have X := HH.Tp (e := eS) A 1 (xs := p0.BL) (z := .str ([] : UV)) rfl B
  refine NC (id := 2) (n := 2) (v := .tuple [Ai (-1), .bool false, .str ([] : UV)]) [(1, []), (2, [])] [(0, .ptr (some (bp0, 0))), (7, .tuple [Ai (-1), .bool false, .str ([] : UV)])] (by kernel_rfl) (by kernel_rfl) (by kernel_rfl) H (fun D => QL (by kernel_rfl) X) (fun D => by kernel_rfl) ?_
  intro D H
  refine AO 2 [(9, .bool false)] H fun D H => at_nil ?_
  show OJ cfg 204 g (right (right (right (DS cfg.P 204)))) D h _
  refine IS (by kernel_rfl) ?_
  refine Aa (id := 0) (by kernel_rfl) ?_
  refine ER (x := .tmp 9) (by kernel_rfl) H (fun D => by kernel_rfl) ?_
  refine AH 1 (AN 1 [(2, .bool false)] H fun D H => AZ ?_)
  obtain ⟨rfl, rfl, rfl⟩ := EG M
  exact ⟨.inl rfl, _, rH H, rfl, A⟩
 obtain ⟨⟨x1, x2⟩, X, M⟩ := bind_some M
 obtain ⟨h1, X, E⟩ := HH.Tw encS A 1 (xs := p0.BL) (v := .str x1) (z := .str ([] : UV)) rfl X rfl
 replace A : HH g h1 [_, .obj bp0_0 (.chan 64 (AQ eS x2))] F := E
 refine NC (id := 2) (n := 2) (v := .tuple [Ai 0, .bool true, .str x1]) [(1, []), (2, [])] [(0, .ptr (some (bp0, 0))), (7, .tuple [Ai 0, .bool true, .str x1])] (by kernel_rfl) (by kernel_rfl) (by kernel_rfl) H (fun D => QL (by kernel_rfl) X) (fun D => by kernel_rfl) ?_
 intro D H
 refine AO 2 [(9, .bool true)] H fun D H => at_nil ?_
 show OJ cfg 204 g (right (right (right (DS cfg.P 204)))) D h1 _
 refine IS (by kernel_rfl) ?_
 refine Aa (id := 0) (by kernel_rfl) ?_
 refine C8 (x := .tmp 9) (by kernel_rfl) H (fun D => by kernel_rfl) ?_
 refine AH 5 ?_
 obtain ⟨h2, X, A⟩ := A.s0 1 [.str x1] [_, _, _, _]
 refine Bu 4 [] X H fun D t H => ?_
 refine Bs 1 id (AN 1 [(2, .bool true)] H fun D H => AZ ?_)
 obtain ⟨rfl, rfl, rfl⟩ := EG M
 exact ⟨.inl rfl, _, rH H, rfl, A⟩
def D3 (p1 : Int) (s : (List UInt8) × (List UInt8) × Int × Bool × (List (List UInt8))) : Option (((List UInt8) × (List UInt8) × Int × Bool × (List (List UInt8))) ⊕ (((List UInt8) × (List UInt8) × Int × Bool × (List (List UInt8))))) :=
 match s with
 | (x1, x2, x3, x4, x5) => Ao (decide (p1 > (x1.length : Int))) ((Ao (x2 == ([] : UV)) ((Du (⟨x5, x2, x3, x4⟩ : AU)).bind fun (x16, x17, x18) => some (x17.Bz, x17.Ar, x17.AY, x18, !x16)) (some (x2, x3, x4, x5, false)) : Option ((List UInt8) × Int × Bool × (List (List UInt8)) × Bool)).bind fun (x11, x12, x13, x14, x15) => Ao x15 (some (.inr (x1, x11, x12, x13, x14))) ((IX x11 none (some (mn (i64.wrap (p1 - (x1.length : Int))) (x11.length : Int)))).bind fun x19 => Cl (Hs 1 (x1.length + x19.length)) <| (IX x11 (some (mn (i64.wrap (p1 - (x1.length : Int))) (x11.length : Int))) none).bind fun x20 => some (.inl ((x1 ++ x19), x20, x12, x13, x14)))) (some (.inr (x1, x2, x3, x4, x5)))
def A6 (p0 : AU) (p1 : Int) : Option ((List UInt8) × AU × (List (List UInt8))) :=
 (loop (D3 p1) (([] : UV), p0.Bz, p0.Ar, p0.AY, p0.BL)).bind fun (x6, x7, x8, x9, x10) => some (x6, (⟨x10, x7, i64.wrap (x8 - (x6.length : Int)), x9⟩ : AU), x10)
theorem C1 {p0 p1 bp0 bp0_0 q0 u0 u1} (M : A6 p0 p1 = some (q0, u0, u1)) (A : HH g h [.obj bp0 (.cells none 2 [.chan (some bp0_0), .str p0.Bz, Ai p0.Ar, .bool p0.AY]), .obj bp0_0 (.chan 64 (AQ eS p0.BL))] F) (hc : BP (cfg.still 151) av = [.ptr (some (bp0, 0)), Ai p1] := by kernel_rfl) : ∃ v Q, BZ cfg g h 151 av v Q ∧ v = .str q0 ∧ HH g Q [.obj bp0 (.cells none 2 [.chan (some bp0_0), .str u0.Bz, Ai u0.Ar, .bool u0.AY]), .obj bp0_0 (.chan 64 (AQ eS u1))] F := by
 refine EE 59 [.tmp 4] hc ?_
 clear hc
 unfold A6 at M
 refine bg 59 [(0, .ptr (some (bp0, 0))), (1, Ai p1)] fun D H => ?_
 refine AH 1 (AN 1 [] H fun D H => Lv (by kernel_rfl) ?_)
 refine AH 1 (AN 1 [(5, .slice none 0)] H fun D H => AS (LY (by kernel_rfl) ?_))
 show AW _ _ _ _ _ _ _
 refine AS (Aa (id := 0) (by kernel_rfl) ?_)
 replace A : HH g h [.AQ none 5 (AQ eY ([] : UV)), _, _] F := A.Hv 5
 obtain ⟨o1, O, M⟩ := bind_some M
 refine Bb (Q' := fun e N Q => (∃ x6 x7 x8 x9 x10, e = .exit 0 ∧ (x6, x7, x8, x9, x10) = o1 ∧ ∃ r2, Has N 59 [(0, .ptr (some (bp0, 0))), (5, AP r2 x6.length)] ∧ HH g Q [.AQ r2 5 (AQ eY x6), .obj bp0 (.cells none 2 [.chan (some bp0_0), .str x7, Ai x8, .bool x9]), .obj bp0_0 (.chan 64 (AQ eS x10))] F) ∨ False) ?_ ?_
 ·refine C2 (by kernel_rfl) (fun (s : (List UInt8) × (List UInt8) × Int × Bool × (List (List UInt8))) N Q => ∃ x1 x2 x3 x4 x5, (x1, x2, x3, x4, x5) = s ∧ ∃ r1, Has N 59 [(0, .ptr (some (bp0, 0))), (1, Ai p1), (5, AP r1 x1.length)] ∧ HH g Q [.AQ r1 5 (AQ eY x1), .obj bp0 (.cells none 2 [.chan (some bp0_0), .str x2, Ai x3, .bool x4]), .obj bp0_0 (.chan 64 (AQ eS x5))] F) O ⟨_, _, _, _, _, rfl, none, H.ls, A⟩ ?_
  clear O M H A
  intro s q D h1 V M
  obtain ⟨x1, x2, x3, x4, x5, rfl, r1, H, A⟩ := V
  unfold D3 at M
  refine AS (AH 4 (AN 4 [(10, .bool (decide (p1 > (x1.length : Int))))] H fun D H => Ac 10 H M (fun B M H => ?_) fun B M H => ?_))
  ·refine CT id (Aa (id := 1) (by kernel_rfl) ?_)
   refine AS (AH 10 (AX 3 [] 14 1 1 A H fun D t H => ?_))
   refine AO 2 [(16, .bool (x2 == ([] : UV)))] H fun D H => ?_
   obtain ⟨⟨x11, x12, x13, x14, x15⟩, O, M⟩ := bind_some M
   refine Bi 4 (fun N Q => Has N 59 [(0, .ptr (some (bp0, 0))), (1, Ai p1), (5, AP r1 x1.length), (20, .bool x15)] ∧ HH g Q [.AQ r1 5 (AQ eY x1), .obj bp0 (.cells none 2 [.chan (some bp0_0), .str x11, Ai x12, .bool x13]), .obj bp0_0 (.chan 64 (AQ eS x14))] F) ?_ ?_
   ·rcases BT O with ⟨B, M⟩ | ⟨B, M⟩
    ·replace H := H.kn 16 B
     replace A := A.k3 1 2 0
     obtain ⟨⟨x16, x17, x18⟩, X, M⟩ := bind_some M
     obtain ⟨v1, I, R, rfl, E⟩ := JL (av := [.ptr (some (bp0, 0))]) X (A.cut 2)
     replace A := A.g22 E
     refine BC 1 [] 18 R H fun D t H => ?_
     refine AO 2 [(20, .bool (!x16))] H fun D H => ?_
     obtain ⟨rfl, rfl, rfl, rfl, rfl⟩ := Va M
     replace A := A.k3 2 0 1
     exact at_nil ⟨H.ls, A⟩
    replace H := H.kn 16 B
    refine AO 4 [(20, .bool false)] H fun D H => ?_
    obtain ⟨rfl, rfl, rfl, rfl, rfl⟩ := Va M
    exact at_nil ⟨H.ls, A⟩
   clear A
   intro t D h2 C
   obtain ⟨H, A⟩ := C
   refine Bq id (Ac 20 H M (fun B M H => ?_) fun B M H => ?_)
   ·refine Bp (i := 0) (by kernel_rfl) ?_
    exact nr M fun e => .inl ⟨_, _, _, _, _, rfl, e, _, H.ls, A⟩
   refine B3 11 id (AX 7 [(24, Ai (i64.wrap (p1 - (x1.length : Int))))] 28 1 1 A H fun D t H => ?_)
   refine B5 3 [(6, Ai (mn (i64.wrap (p1 - (x1.length : Int))) (x11.length : Int)))] 9 H fun D H => AX 4 [(31, AP r1 x1.length)] 35 1 1 A H fun D t H => ?_
   obtain ⟨x19, X, M⟩ := bind_some M
   refine B0 1 [] 37 (.str x19) h2 H (fun D => .of (HW (k := .i64) (k' := .i64) (lo := none) (hi := (some (mn (i64.wrap (p1 - (x1.length : Int))) (x11.length : Int)))) (by kernel_rfl) X)) fun D t H => ?_
   obtain ⟨B, M⟩ := Aq M
   obtain ⟨r3, T, X, E⟩ := HH.FN Df (by decide) A 0 (xs := x1) (ys := x19) rfl (FF _ x19) (Df.BP _) rfl B
   replace A : HH g T [.AQ r3 5 (AQ eY (x1 ++ x19)), _, _] F := E
   refine Ae 38 _ _ H (fun D => .of (DU (s := CF r1 x1.length) (by kernel_rfl) X)) fun D t H => ?_
   refine Bv 1 [(0, .ptr (some (bp0, 0))), (1, Ai p1), (5, AP r3 ((x1 ++ x19).length)), (6, Ai (mn (i64.wrap (p1 - (x1.length : Int))) (x11.length : Int)))] H fun D H => ED 10 id (AX 4 [(39, .ptr (some (bp0, 0)))] 43 1 1 A H fun D t H => ?_)
   obtain ⟨x20, X, M⟩ := bind_some M
   refine B0 1 [] 45 (.str x20) T H (fun D => .of (HW (k := .i64) (k' := .i64) (lo := (some (mn (i64.wrap (p1 - (x1.length : Int))) (x11.length : Int)))) (hi := none) (by kernel_rfl) X)) fun D t H => ?_
   obtain ⟨h5, X, A⟩ := A.s1 1 [.str x20] [_, _, _, _]
   refine Bu 2 [] X H fun D t H => ?_
   refine at_nil ?_
   exact nx M ⟨_, _, _, _, _, rfl, _, H.ls, A⟩
  refine Bp (i := 0) (by kernel_rfl) ?_
  exact nr M fun e => .inl ⟨_, _, _, _, _, rfl, e, _, H.ls, A⟩
 clear O
 clear A
 intro e D h6 J
 rcases J with ⟨x6, x7, x8, x9, x10, rfl, rfl, r2, H, A⟩ | K
 ·show AW _ _ _ _ _ _ _
  refine AH 10 (AX 3 [(48, .ptr (some (bp0, 0)))] 51 1 2 A H fun D t H => ?_)
  obtain ⟨Y, X, A⟩ := A.s1 2 [Ai (i64.wrap (x8 - (x6.length : Int)))] [_, _, _, _]
  refine Bu 5 [] X H fun D t H => ?_
  refine Bs 3 id (AO 1 [(57, AP r2 x6.length)] H fun D H => Ae 58 (.str x6) Y H (fun D => .of (Kt (xs := x6) A 0 rfl (by kernel_rfl))) fun D t H => ?_)
  refine AN 1 [(4, .str x6)] H fun D H => AZ ?_
  obtain ⟨rfl, rfl, rfl⟩ := EG M
  refine ⟨.inl rfl, .str x6, rH H, ?_⟩
  replace A := A.k2 1 2
  exact ⟨rfl, A⟩
 exact K.elim
def JW (p0 : List UInt8) (s : Int) : Option ((Int) ⊕ ((Unit) ⊕ (Bool))) :=
 match s with
 | x1 => Ao (decide (x1 < (p0.length : Int))) ((U9 p0 x1).bind fun x3 => Ao (x3 != 0) (some (.inr (.inr false))) (some (.inl (i64.wrap (x1 + 1))))) (some (.inr (.inl ())))
def F4 (p0 : List UInt8) : Option (Bool) :=
 (loop (JW p0) (0 : Int)).bind fun o1 => (match o1 with | .inl _ => some ((p0.length : Int) == 512) | .inr x2 => some x2)
theorem OU {p0 q0} (M : F4 p0 = some q0) (A : HH g h [] F) (hc : BP (cfg.still 237) av = [.str p0] := by kernel_rfl) : ∃ v Q, BZ cfg g h 237 av v Q ∧ v = .bool q0 ∧ HH g Q [] F := by
 refine EE 17 [.tmp 2] hc ?_
 clear hc
 unfold F4 at M
 refine bg 17 [(0, .str p0)] fun D H => ?_
 refine AH 1 (AN 1 [] H fun D H => AS (AH 3 (AN 3 [(5, Ai (p0.length : Int)), (6, Ai 0)] H fun D H => Aa (id := 0) (by kernel_rfl) ?_)))
 obtain ⟨o1, O, M⟩ := bind_some M
 refine Bb (Q' := fun e N Q => (e = .exit 0 ∧ .inl () = o1 ∧ Has N 17 [(0, .str p0)] ∧ HH g Q [] F) ∨ (∃ x2, e = .ret ∧ .inr x2 = o1 ∧ Has N 17 [(2, .bool x2)] ∧ HH g Q [] F) ∨ False) ?_ ?_
 ·refine C2 (by kernel_rfl) (fun (s : Int) N Q => ∃ x1, x1 = s ∧ Has N 17 [(0, .str p0), (5, Ai (p0.length : Int)), (6, Ai x1)] ∧ HH g Q [] F) O ⟨_, rfl, H.ls, A⟩ ?_
  clear O M H A
  intro s q D h1 V M
  obtain ⟨x1, rfl, H, A⟩ := V
  unfold JW at M
  refine AH 1 (AN 1 [(7, .bool (decide (x1 < (p0.length : Int))))] H fun D H => AS (Ac 7 H M (fun B M H => ?_) fun B M H => ?_))
  ·refine CT id (AS (Aa (id := 1) (by kernel_rfl) ?_))
   refine AH 2 (B5 2 [(3, Ai x1)] 4 H fun D H => ?_)
   obtain ⟨x3, X, M⟩ := bind_some M
   refine B0 2 [] 11 (Ab x3) h1 H (fun D => .of (Mf (by kernel_rfl) X)) fun D t H => ?_
   refine AN 1 [(12, .bool (x3 != 0))] H fun D H => Ac 12 H M (fun B M H => ?_) fun B M H => ?_
   ·refine AH 1 (AN 1 [(2, .bool false)] H fun D H => AZ ?_)
    exact nr M fun e => Or.inr (.inl ⟨_, rfl, e, H.ls, A⟩)
   refine EX 2 id (Bv 2 [(0, .str p0), (5, Ai (p0.length : Int)), (6, Ai (i64.wrap (x1 + 1)))] H fun D H => at_nil ?_)
   exact nx M ⟨_, rfl, H.ls, A⟩
  refine Bp (i := 0) (by kernel_rfl) ?_
  exact nr M fun e => .inl ⟨rfl, e, H.ls, A⟩
 clear O
 clear A
 intro e D h2 J
 rcases J with ⟨rfl, rfl, H, A⟩ | ⟨x2, rfl, rfl, H, A⟩ | K
 ·show AW _ _ _ _ _ _ _
  refine AH 4 (AN 4 [(2, .bool ((p0.length : Int) == 512))] H fun D H => AZ ?_)
  obtain rfl := BB M
  exact ⟨.inl rfl, _, rH H, rfl, A⟩
 ·obtain rfl := BB M
  exact ⟨.inl rfl, _, rH H, rfl, A⟩
 exact K.elim
def DP (p0 : Ap) : Option (Bool) :=
 some ((p0.Ag || p0.Af) || p0.Ak)
theorem Kl {p0 q0} (M : DP p0 = some q0) (A : HH g h [] F) (hc : BP (cfg.still 238) av = [.agg (CX p0)] := by kernel_rfl) : ∃ v Q, BZ cfg g h 238 av v Q ∧ v = .bool q0 ∧ HH g Q [] F := by
 refine EE 13 [.tmp 2] hc ?_
 clear hc
 unfold DP at M
 refine bg 13 [(0, .agg (CX p0))] fun D H => ?_
 refine AH 2 ?_
 obtain ⟨h1, e1, A⟩ := A.pu (.cells none 2 (CX p0))
 refine BU 1 (.ptr (some (h.size, 0))) e1 H fun D t H => ?_
 refine B5 1 [] 11 H fun D H => AX 1 [] 4 0 3 A H fun D t H => ?_
 refine AO 1 [(5, .bool p0.Ag)] H fun D H => Bi 3 (fun N Q => h1 = Q ∧ Has N 13 [(1, .ptr (some (h.size, 0))), (8, .bool (p0.Ag || p0.Af))]) ?_ ?_
 ·cases B : (p0.Ag : Bool) with
  | true =>
   replace H := H.kn 5 B
   exact AO 3 [(8, .bool true)] H fun D H => A8 H B
  | false =>
   replace H := H.kn 5 B
   refine AX 1 [] 7 0 4 A H fun D t H => ?_
   exact AO 1 [(8, .bool p0.Af)] H fun D H => A8 H B
 intro t D Q C
 obtain ⟨e, H⟩ := C
 subst e
 refine AO 1 [(9, .bool (p0.Ag || p0.Af))] H fun D H => Bi 3 (fun N Q => h1 = Q ∧ Has N 13 [(12, .bool ((p0.Ag || p0.Af) || p0.Ak))]) ?_ ?_
 ·cases B : (p0.Ag || p0.Af : Bool) with
  | true =>
   replace H := H.kn 9 B
   exact AO 3 [(12, .bool true)] H fun D H => A8 H B
  | false =>
   replace H := H.kn 9 B
   refine AX 1 [] 11 0 5 A H fun D t H => ?_
   exact AO 1 [(12, .bool p0.Ak)] H fun D H => A8 H B
 intro t D Q C
 obtain ⟨e, H⟩ := C
 subst e
 refine AN 1 [(2, .bool ((p0.Ag || p0.Af) || p0.Ak))] H fun D H => AZ ?_
 obtain rfl := BB M
 refine ⟨.inl rfl, .bool ((p0.Ag || p0.Af) || p0.Ak), rH H, ?_⟩
 replace A := A.d0
 exact ⟨rfl, A⟩
def BR (p0 : AV) (p1 : Int) (p2 : Int) : Option (AV × (List UInt8)) :=
 some ((⟨p0.Aw, p0.Az, (4 : Int), p0.BQ, p0.at_, p0.BD, p1, p2, p0.AD, p0.BI, ([] : UV), (⟨([] : List AA), p0.AM.Ba, p0.AM.Be, p0.AM.Ag, p0.AM.Af, p0.AM.Ak⟩ : Ap), ([] : List AA)⟩ : AV), ([] : UV))
theorem Br {p0 p1 p2 bp0 bp0_2 bp0_2_0 rp0_23 u0 u3} (M : BR p0 p1 p2 = some (u0, u3)) (A : HH g h [.obj bp0 (.cells none 2 [Ai p0.Aw.Head, Ai p0.Aw.Name, .ptr (some (bp0_2, 0)), Ai p0.BE, Ai p0.BQ, Ai p0.at_, .bool p0.BD, Ai p0.BG, Ai p0.BH, .str p0.AD.Name, .str p0.AD.A9, Ab p0.AD.Kind, Ai p0.AD.Mode, Ai p0.AD.Cz, Ai p0.AD.Ct, Ai p0.AD.Bg, Ai p0.AD.Time, .str p0.AD.Ah, .str p0.AD.Aj, Ai p0.AD.Au, Ai p0.AD.As, Ai p0.AD.Form, Ai p0.BI, AP rp0_23 p0.DR.length, .slice none 0, .str p0.AM.Ba, .str p0.AM.Be, .bool p0.AM.Ag, .bool p0.AM.Af, .bool p0.AM.Ak, .slice none 0]), .obj bp0_2 (.cells none 2 [.chan (some bp0_2_0), .str p0.Az.Bz, Ai p0.Az.Ar, .bool p0.Az.AY]), .obj bp0_2_0 (.chan 64 (AQ eS p0.Az.BL)), .AQ rp0_23 5 (AQ eY p0.DR)] F) (hc : BP (cfg.still 153) av = [.ptr (some (bp0, 0)), Ai p1, Ai p2] := by kernel_rfl) : ∃ v Q, BZ cfg g h 153 av v Q ∧ ∃ (r'3 : Option Nat), v = .tuple [] ∧ HH g Q [.obj bp0 (.cells none 2 [Ai u0.Aw.Head, Ai u0.Aw.Name, .ptr (some (bp0_2, 0)), Ai u0.BE, Ai u0.BQ, Ai u0.at_, .bool u0.BD, Ai u0.BG, Ai u0.BH, .str u0.AD.Name, .str u0.AD.A9, Ab u0.AD.Kind, Ai u0.AD.Mode, Ai u0.AD.Cz, Ai u0.AD.Ct, Ai u0.AD.Bg, Ai u0.AD.Time, .str u0.AD.Ah, .str u0.AD.Aj, Ai u0.AD.Au, Ai u0.AD.As, Ai u0.AD.Form, Ai u0.BI, AP r'3 u3.length, .slice none 0, .str u0.AM.Ba, .str u0.AM.Be, .bool u0.AM.Ag, .bool u0.AM.Af, .bool u0.AM.Ak, .slice none 0]), .obj bp0_2 (.cells none 2 [.chan (some bp0_2_0), .str p0.Az.Bz, Ai p0.Az.Ar, .bool p0.Az.AY]), .obj bp0_2_0 (.chan 64 (AQ eS p0.Az.BL)), .AQ r'3 5 (AQ eY u3)] F := by
 refine EE 20 [] hc ?_
 clear hc
 unfold BR at M
 refine bg 20 [(0, .ptr (some (bp0, 0))), (1, Ai p1), (2, Ai p2)] fun D H => ?_
 refine CE 18 ?_
 obtain ⟨h1, X, A⟩ := A.s0 7 [Ai p1] [_, _, _, _, _, _, _, _, _, _, _, _, _, _, _, _, _, _, _, _, _, _, _, _, _, _, _, _, _, _, _]
 refine Bu 8 [(7, .ptr (some (bp0, 0))), (8, .ptr (some (bp0, 0))), (9, .ptr (some (bp0, 0))), (11, Ai p2)] X H fun D t H => ?_
 obtain ⟨h2, X, A⟩ := A.s0 8 [Ai p2] [_, _, _, _, _, _, _, _, _, _, _, _, _, _, _, _, _, _, _, _, _, _, _, _, _, _, _, _, _, _, _]
 refine Bu 2 [] X H fun D t H => ?_
 obtain ⟨I, X, A⟩ := A.s0 3 [Ai 4] [_, _, _, _, _, _, _, _, _, _, _, _, _, _, _, _, _, _, _, _, _, _, _, _, _, _, _, _, _, _, _]
 refine Bu 2 [] X H fun D t H => ?_
 obtain ⟨T, X, A⟩ := A.s0 23 [.slice none 0] [_, _, _, _, _, _, _, _, _, _, _, _, _, _, _, _, _, _, _, _, _, _, _, _, _, _, _, _, _, _, _]
 refine Bu 2 [] X H fun D t H => ?_
 refine at_nil ?_
 obtain ⟨rfl, rfl⟩ := B4 M
 replace A : HH g T [.AQ none 5 (AQ eY ([] : UV)), _, _, _, _] F := A.Hv 5
 refine ⟨.inr rfl, .tuple [], rH H, ?_⟩
 replace A : HH g T [.obj bp0 (.cells none 2 [_, _, _, _, _, _, _, _, _, _, _, _, _, _, _, _, _, _, _, _, _, _, _, AP none (([] : UV).length), _, _, _, _, _, _, _]), _, _, _] F := (HH.Nz ((((A.front 0 rfl).front 3 rfl).front 3 rfl).front 3 rfl) 4)
 exact ⟨none, rfl, A⟩
end
end Go.Av.L
