/-
 Models of functions, and that the abstract run tells them. Written by lift2.py.
-/
import Derived.Test.YtipknimgfcokeaaGreatDoorKCfg
import Derived.Test.YtipknimgfcokeaaGreatDoorK3
import Derived.Test.YtipknimgfcokeaaGreatDoorK4
import Derived.Test.YtipknimgfcokeaaGreatDoorK5
import Derived.Test.YtipknimgfcokeaaGreatDoorK6
import Derived.Test.YtipknimgfcokeaaGreatDoorK7
namespace Go.Av.L
open Go.Av Go.Lib
set_option maxRecDepth 10000
set_option linter.unusedVariables false
set_option linter.unusedSimpArgs false
variable {g : Gd} {h : AH} {F : List Ck} {av : List AB}
noncomputable section
def CP (p0 : Bc) (p1 : Int) : Option ((Option CW) × Int × Int) :=
 (D2 p0.Re p0.Es).bind fun (x1, x2, x3) => Af (x3 != 0) (some (none, (1 : Int), x3)) ((EX p0.CU).bind fun (x4, x5, x6) => Af (x6 != 0) (some (none, (2 : Int), x6)) ((Cq x4).bind fun x7 => (Ct x1).bind fun x8 => Af (decide (x7 > x8)) (some (none, (2 : Int), (11 : Int))) (Af (decide (p0.Number < 1)) (some (none, (3 : Int), (6 : Int))) ((Af p0.Fold (none) (some ()) : Option ((Unit))).bind fun _ => (DI x1 p1).bind fun (w10, x10) => (match w10 with | some x9 => Af (x10 != 0) (some (none, (1 : Int), x10)) (some (some (⟨p0, x1, x9, x4⟩ : CW), (0 : Int), (0 : Int))) | none => Af (x10 != 0) (some (none, (1 : Int), x10)) (none))))))
theorem FE {p0 p1 o0 q1 q2} (hm : CP p0 p1 = some (o0, q1, q2)) (A : HH g h [] F) (hc : BZ (cfg.still 5) av = [.agg (BH p0), Ai p1] := by kernel_rfl) : ∃ v h', Bg cfg g h 5 av v h' ∧ ((∃ (q0 : CW), o0 = some q0 ∧ v = .tuple [.Aq (AR q0), Ai q1, Ai q2] ∧ HH g h' [] F) ∨ (o0 = none ∧ v = .tuple [.ptr none, Ai q1, Ai q2] ∧ HH g h' [] F)) := by
 refine Xh 65 [.tmp 4, .tmp 5, .tmp 6] hc ?_
 clear hc
 unfold CP at hm
 refine bg 65 [(0, .agg (BH p0)), (1, Ai p1)] fun fr H => ?_
 refine AD 4 ?_
 obtain ⟨h1, e1, A⟩ := A.pu (.cells none 2 (BH p0))
 refine Bo 2 (.ptr (some (h.size, 0))) e1 H fun fr t H => ?_
 refine Bw 3 [] 13 H fun fr H => Ad 1 [] 15 0 0 A H fun fr t H => ?_
 refine Ad 1 [] 17 0 4 A H fun fr t H => ?_
 obtain ⟨⟨x1, x2, x3⟩, hx, hm⟩ := bind_some hm
 obtain ⟨v1, h2, hr, rfl, A1⟩ := Jl (av := [.str p0.Re, .bool p0.Es]) hx (A.cut 0)
 replace A : HH g h2 [.obj h.size (.cells none 2 (BH p0))] F := A.Ex (n := 0) A1
 refine Be 18 hr H fun fr t H => ?_
 obtain ⟨h3, e2, A⟩ := A.pu (.cells none 2 [.slice none 0, Ai 0])
 refine F8 4 [(19, .agg (Aa x1)), (20, Ai x2), (21, Ai x3)] 7 (.ptr (some (h2.size, 0))) e2 H fun fr t H => ?_
 obtain ⟨h4, hx, A⟩ := A.s0 0 (Aa x1) [_, _]
 refine DN hx H fun fr t H => ?_
 refine AM 2 [(9, Ai x3)] H fun fr H => AQ (AD 2 (AM 2 [(23, .bool (x3 != 0))] H fun fr H => AV 23 H hm (fun hb hm H => ?_) fun hb hm H => ?_))
 ·refine AD 4 (AM 4 [(4, .ptr none), (5, Ai 1), (6, Ai x3)] H fun fr H => Ag ?_)
  obtain ⟨rfl, rfl, rfl⟩ := DR hm
  refine ⟨.inl rfl, .tuple [.ptr none, Ai 1, Ai x3], rH H, ?_⟩
  replace A := A.d0
  refine ⟨.tuple [.ptr none, Ai 1, Ai x3], h4, by first | rfl | (simp only [JK, Ja, JP, JO, Jd, JZ, JG, JI, JW, JN, JQ, I8, I9, HN, HG, HM, HQ, HX, HI, HJ, Option.map_some] <;> rfl), ?_⟩
  exact .inr ⟨rfl, rfl, A⟩
 refine Ca 10 id (Ad 1 [] 27 1 1 A H fun fr t H => ?_)
 obtain ⟨⟨x4, x5, x6⟩, hx, hm⟩ := bind_some hm
 obtain ⟨v1, h5, hr, rqw4, rfl, A1⟩ := NZ (av := [.str p0.CU]) hx (A.cut 0)
 replace A := A.XR A1
 refine Be 28 hr H fun fr t H => ?_
 refine BG 7 [(1, Ai p1), (2, .ptr (some (h.size, 0))), (7, .ptr (some (h2.size, 0))), (9, Ai x6), (10, AG rqw4 x4.length)] H fun fr H => BK id (AQ (Ac (id := 0) (by kernel_rfl) ?_))
 refine AD 3 (AM 3 [(32, .bool (x6 != 0))] H fun fr H => AV 32 H hm (fun hb hm H => ?_) fun hb hm H => ?_)
 ·refine AD 4 (AM 4 [(4, .ptr none), (5, Ai 2), (6, Ai x6)] H fun fr H => Ag ?_)
  obtain ⟨rfl, rfl, rfl⟩ := DR hm
  refine ⟨.inl rfl, .tuple [.ptr none, Ai 2, Ai x6], rH H, ?_⟩
  replace A := A.d0
  refine ⟨.tuple [.ptr none, Ai 2, Ai x6], h5, by first | rfl | (simp only [JK, Ja, JP, JO, Jd, JZ, JG, JI, JW, JN, JQ, I8, I9, HN, HG, HM, HQ, HX, HI, HJ, Option.map_some] <;> rfl), ?_⟩
  exact .inr ⟨rfl, rfl, A⟩
 refine AQ (Ft 7 6 [(0, []), (2, []), (1, [2]), (3, []), (4, []), (5, [])] ?_)
 refine AE 1 [(37, AG rqw4 x4.length)] H fun fr H => BT 39 (.agg (Aa x1)) h5 [(2, h2.size)] (g.BR) H (fun fr => .of (CD (by kernel_rfl) (A.la 1 0 2))) (fun fr H => ?_)
 have A1 := A.Fe 1 (pr := [h2.size]) (.cons 0 rfl (by simp [Ck.ids]) .nil)
 obtain ⟨x7, hx, hm⟩ := bind_some hm
 obtain ⟨v1, h6, hr, rfl, A1⟩ := Kz (av := [AG rqw4 x4.length]) hx A1
 replace A := A.VA A1
 refine BT 38 (Ai x7) h6 [(2, h2.size)] (h2.size :: g.BR) H (fun fr => Steps.call (by kernel_rfl) hr) (fun fr H => ?_)
 obtain ⟨x8, hx, hm⟩ := bind_some hm
 obtain ⟨v1, h7, hr, rfl, A1⟩ := K1 (av := [.agg (Aa x1)]) hx (A.cut 0)
 replace A := A.Ea A1
 refine BT 40 (Ai x8) h7 [(2, h2.size)] (g.BR) H (fun fr => Steps.call (by kernel_rfl) hr) (fun fr H => ?_)
 refine AM 2 [(36, .bool (decide (x7 > x8)))] H fun fr H => AV 36 H hm (fun hb hm H => ?_) fun hb hm H => ?_
 ·refine AD 3 (AM 3 [(4, .ptr none), (5, Ai 2), (6, Ai 11)] H fun fr H => Ag ?_)
  obtain ⟨rfl, rfl, rfl⟩ := DR hm
  refine ⟨.inl rfl, .tuple [.ptr none, Ai 2, Ai 11], rH H, ?_⟩
  replace A := A.d0
  refine ⟨.tuple [.ptr none, Ai 2, Ai 11], h7, by first | rfl | (simp only [JK, Ja, JP, JO, Jd, JZ, JG, JI, JW, JN, JQ, I8, I9, HN, HG, HM, HQ, HX, HI, HJ, Option.map_some] <;> rfl), ?_⟩
  exact .inr ⟨rfl, rfl, A⟩
 refine AD 4 (Ad 1 [] 44 2 5 A H fun fr t H => ?_)
 refine AM 2 [(42, .bool (decide (p0.Number < 1)))] H fun fr H => AV 42 H hm (fun hb hm H => ?_) fun hb hm H => ?_
 ·refine AD 3 (AM 3 [(4, .ptr none), (5, Ai 3), (6, Ai 6)] H fun fr H => Ag ?_)
  obtain ⟨rfl, rfl, rfl⟩ := DR hm
  refine ⟨.inl rfl, .tuple [.ptr none, Ai 3, Ai 6], rH H, ?_⟩
  replace A := A.d0
  refine ⟨.tuple [.ptr none, Ai 3, Ai 6], h7, by first | rfl | (simp only [JK, Ja, JP, JO, Jd, JZ, JG, JI, JW, JN, JQ, I8, I9, HN, HG, HM, HQ, HX, HI, HJ, Option.map_some] <;> rfl), ?_⟩
  exact .inr ⟨rfl, rfl, A⟩
 refine CE id (AQ ?_)
 obtain ⟨o1, ho, hm⟩ := bind_some hm
 refine As (Q' := fun e fr' h' => (e = .normal ∧ () = o1 ∧ Has fr' 65 [(1, Ai p1), (2, .ptr (some (h.size, 0))), (7, .ptr (some (h2.size, 0))), (10, AG rqw4 x4.length)] ∧ HH g h' [.AO rqw4 85 (AO AS x4), .obj h2.size (.cells none 2 (Aa x1)), .obj h.size (.cells none 2 (BH p0))] F) ∨ False) ?_ ?_
 ·replace hm := ho
  clear ho
  refine AD 2 (Ad 1 [] 47 2 3 A H fun fr t H => ?_)
  refine BK id (AV 47 H hm (fun hb hm H => ?_) fun hb hm H => ?_)
  ·refine Bd 3 (Ax 48 _ _ H (fun fr => .of (CD (by kernel_rfl) (A.GX 1 rfl (o := 0) (n := 2) ⟨Nat.le_of_ble_eq_true rfl, rfl⟩))) fun fr t H => ?_)
   cases hm
  exact By (.inl ⟨rfl, Ah hm, H.ls, A⟩)
 clear ho
 clear A
 intro e fr h8 hQ
 rcases hQ with ⟨rfl, rfl, H, A⟩ | hF
 ·show AW _ _ _ _ _ _ _
  refine AD 8 (Ax 51 _ _ H (fun fr => .of (CD (by kernel_rfl) (A.GX 1 rfl (o := 0) (n := 2) ⟨Nat.le_of_ble_eq_true rfl, rfl⟩))) fun fr t H => ?_)
  obtain ⟨⟨w10, x10⟩, hx, hm⟩ := bind_some hm
  obtain ⟨v1, h9, hr, hc⟩ := IE (av := [.agg (Aa x1), Ai p1]) hx (A.cut 0)
  rcases hc with ⟨x9, rfl, rfl, A1⟩ | ⟨rfl, rfl, A1⟩
  ·replace A := A.Ea A1
   refine Ap 1 [] 53 hr H fun fr t H => ?_
   refine AM 5 [(9, Ai x10), (12, .Aq (Ej 256 (AB.int .u8) x9.Az ++ [Ai x9.Al, vs (eI .i32) x9.Ba, vs eB x9.BX, vs eB x9.BV, .int .i32 x9.Aj, .int .i32 x9.BN, .bool x9.BE]))] H fun fr H => AQ (AD 2 (AM 2 [(57, .bool (x10 != 0))] H fun fr H => AV 57 H hm (fun hb hm H => ?_) fun hb hm H => ?_))
   ·refine AD 4 (AM 4 [(4, .ptr none), (5, Ai 1), (6, Ai x10)] H fun fr H => Ag ?_)
    obtain ⟨rfl, rfl, rfl⟩ := DR hm
    refine ⟨.inl rfl, .tuple [.ptr none, Ai 1, Ai x10], rH H, ?_⟩
    replace A := A.d0
    refine ⟨.tuple [.ptr none, Ai 1, Ai x10], h9, by first | rfl | (simp only [JK, Ja, JP, JO, Jd, JZ, JG, JI, JW, JN, JQ, I8, I9, HN, HG, HM, HQ, HX, HI, HJ, Option.map_some] <;> rfl), ?_⟩
    exact .inr ⟨rfl, rfl, A⟩
   refine Ca 9 id (Ax 59 _ _ H (fun fr => .of (CD (by kernel_rfl) (A.GX 2 rfl (o := 0) (n := 9) ⟨Nat.le_of_ble_eq_true rfl, rfl⟩))) fun fr t H => ?_)
   refine Ax 60 _ _ H (fun fr => .of (CD (by kernel_rfl) (A.GX 1 rfl (o := 0) (n := 2) ⟨Nat.le_of_ble_eq_true rfl, rfl⟩))) fun fr t H => ?_
   obtain ⟨h10, e3, A⟩ := A.pu (.cells none 2 [.str p0.Re, .str p0.CU, .bool p0.Global, .bool p0.Fold, .bool p0.Es, Ai p0.Number, .bool p0.Names, .bool p0.QR, .bool p0.P4, vs AA x1.AU, Ai x1.Bf, .Aq (Ej 256 (AB.int .u8) x9.Az ++ [Ai x9.Al, vs (eI .i32) x9.Ba, vs eB x9.BX, vs eB x9.BV, .int .i32 x9.Aj, .int .i32 x9.BN, .bool x9.BE]), AG rqw4 x4.length])
   refine F8 3 [] 64 (.ptr (some (h9.size, 0))) e3 H fun fr t H => ?_
   refine AM 3 [(4, .ptr (some (h9.size, 0))), (5, Ai 0), (6, Ai 0)] H fun fr H => Ag ?_
   obtain ⟨rfl, rfl, rfl⟩ := DR hm
   refine ⟨.inl rfl, .tuple [.ptr (some (h9.size, 0)), Ai 0, Ai 0], rH H, ?_⟩
   replace A : HH g h10 [.obj h9.size (.cells none 2 [.str p0.Re, .str p0.CU, .bool p0.Global, .bool p0.Fold, .bool p0.Es, Ai p0.Number, .bool p0.Names, .bool p0.QR, .bool p0.P4, vs AA x1.AU, Ai x1.Bf, .Aq (Ej 256 (AB.int .u8) x9.Az ++ [Ai x9.Al, vs (eI .i32) x9.Ba, vs eB x9.BX, vs eB x9.BV, .int .i32 x9.Aj, .int .i32 x9.BN, .bool x9.BE]), AG rqw4 x4.length]), _] F := (HH.Oi ((A.front 1 rfl).front 1 rfl) 2)
   obtain ⟨h11, A1, hy0⟩ := (A.front 0 rfl).Vz
   replace A : HH g h11 [_] F := A1
   obtain ⟨h12, hz1, A1⟩ := (A.front 0 rfl).VN (n := x4.length) (z := 3) (B1.Hb _) (by decide)
   replace A : HH g h12 [] F := A1
   have hz0 := hy0 [.str p0.Re, .str p0.CU, .bool p0.Global, .bool p0.Fold, .bool p0.Es, Ai p0.Number, .bool p0.Names, .bool p0.QR, .bool p0.P4, vs AA x1.AU, Ai x1.Bf, .Aq (Ej 256 (AB.int .u8) x9.Az ++ [Ai x9.Al, vs (eI .i32) x9.Ba, vs eB x9.BX, vs eB x9.BV, .int .i32 x9.Aj, .int .i32 x9.BN, .bool x9.BE]), vs AS x4] h12 (by simp only [JK, Ja, JP, JO, Jd, JZ, JG, JI, JW, JN, JQ, I8, I9, HN, HG, HM, HQ, HX, HI, HJ, Option.map_some, AR, hz1] <;> rfl)
   refine ⟨.tuple [.Aq [.str p0.Re, .str p0.CU, .bool p0.Global, .bool p0.Fold, .bool p0.Es, Ai p0.Number, .bool p0.Names, .bool p0.QR, .bool p0.P4, vs AA x1.AU, Ai x1.Bf, .Aq (Ej 256 (AB.int .u8) x9.Az ++ [Ai x9.Al, vs (eI .i32) x9.Ba, vs eB x9.BX, vs eB x9.BV, .int .i32 x9.Aj, .int .i32 x9.BN, .bool x9.BE]), vs AS x4], Ai 0, Ai 0], h12, by first | rfl | (simp only [JK, Ja, JP, JO, Jd, JZ, JG, JI, JW, JN, JQ, I8, I9, HN, HG, HM, HQ, HX, HI, HJ, Option.map_some, AR, hz0, hz1] <;> rfl), ?_⟩
   exact .inl ⟨(⟨p0, x1, x9, x4⟩ : CW), rfl, rfl, A⟩
  replace A := A.Ea A1
  refine Ap 1 [] 53 hr H fun fr t H => ?_
  refine AM 5 [(9, Ai x10), (12, .ptr none)] H fun fr H => AQ (AD 2 (AM 2 [(57, .bool (x10 != 0))] H fun fr H => AV 57 H hm (fun hb hm H => ?_) fun hb hm H => ?_))
  ·refine AD 4 (AM 4 [(4, .ptr none), (5, Ai 1), (6, Ai x10)] H fun fr H => Ag ?_)
   obtain ⟨rfl, rfl, rfl⟩ := DR hm
   refine ⟨.inl rfl, .tuple [.ptr none, Ai 1, Ai x10], rH H, ?_⟩
   replace A := A.d0
   refine ⟨.tuple [.ptr none, Ai 1, Ai x10], h9, by first | rfl | (simp only [JK, Ja, JP, JO, Jd, JZ, JG, JI, JW, JN, JQ, I8, I9, HN, HG, HM, HQ, HX, HI, HJ, Option.map_some] <;> rfl), ?_⟩
   exact .inr ⟨rfl, rfl, A⟩
  refine Ca 9 id (Ax 59 _ _ H (fun fr => .of (CD (by kernel_rfl) (A.GX 2 rfl (o := 0) (n := 9) ⟨Nat.le_of_ble_eq_true rfl, rfl⟩))) fun fr t H => ?_)
  refine Ax 60 _ _ H (fun fr => .of (CD (by kernel_rfl) (A.GX 1 rfl (o := 0) (n := 2) ⟨Nat.le_of_ble_eq_true rfl, rfl⟩))) fun fr t H => ?_
  obtain ⟨h13, e4, A⟩ := A.pu (.cells none 2 [.str p0.Re, .str p0.CU, .bool p0.Global, .bool p0.Fold, .bool p0.Es, Ai p0.Number, .bool p0.Names, .bool p0.QR, .bool p0.P4, vs AA x1.AU, Ai x1.Bf, .ptr none, AG rqw4 x4.length])
  refine F8 3 [] 64 (.ptr (some (h9.size, 0))) e4 H fun fr t H => ?_
  refine AM 3 [(4, .ptr (some (h9.size, 0))), (5, Ai 0), (6, Ai 0)] H fun fr H => Ag ?_
  cases hm
 exact hF.elim
def DQ (p0 : Bu) (p1 : List UInt8) (s : Int × Int × Bool × Int) : Option ((Int × Int × Bool × Int) ⊕ ((Int × Bool))) :=
 match s with
 | (x2, x3, x4, x5) => Af (decide (x2 ≥ 0)) (Af (x5 == (p1.length : Int)) ((Ff p0.BV x2).bind fun x8 => Af x8 (some (.inr (x5, true))) (some (.inr (x3, x4)))) (((Ff p0.BX x2).bind fun x11 => Af x11 (some (x5, true)) (some (x3, x4)) : Option ((Int × Bool))).bind fun (x9, x10) => (Jf p1 x5).bind fun x12 => (SW 256 p0.Az x12).bind fun x13 => (Ff p0.Ba (IntKind.i64.wrap ((IntKind.i64.wrap ((IntKind.i64.wrap x2) * p0.Al)) + (IntKind.i64.wrap x13)))).bind fun x14 => some (.inl (x14, x9, x10, IntKind.i64.wrap (x5 + 1))))) (some (.inr (x3, x4)))
def Ew (p0 : Bu) (p1 : List UInt8) (p2 : Int) : Option (Int × Bool) :=
 Af ((decide (p2 < 0)) || (decide (p2 > (p1.length : Int)))) (some ((0 : Int), false)) (Af (p1 == ([] : List UInt8)) (some ((0 : Int), p0.BE)) ((Af (p2 == 0) (some p0.Aj) (some p0.BN) : Option ((Int))).bind fun x1 => (loop (DQ p0 p1) (x1, (0 : Int), false, p2)).bind fun (x6, x7) => some (x6, x7)))
theorem LI {p0 p1 p2 q0 q1} (hm : Ew p0 p1 p2 = some (q0, q1)) (A : HH g h [] F) (hc : BZ (cfg.still 36) av = [.Aq (Ej 256 (AB.int .u8) p0.Az ++ [Ai p0.Al, vs (eI .i32) p0.Ba, vs eB p0.BX, vs eB p0.BV, .int .i32 p0.Aj, .int .i32 p0.BN, .bool p0.BE]), .str p1, Ai p2] := by kernel_rfl) : ∃ v h', Bg cfg g h 36 av v h' ∧ v = .tuple [Ai q0, .bool q1] ∧ HH g h' [] F := by
 refine E5 86 [.tmp 6, .tmp 7] hc ?_
 clear hc
 unfold Ew at hm
 refine bg 86 [(0, .Aq (Ej 256 (AB.int .u8) p0.Az ++ [Ai p0.Al, vs (eI .i32) p0.Ba, vs eB p0.BX, vs eB p0.BV, .int .i32 p0.Aj, .int .i32 p0.BN, .bool p0.BE])), (1, .str p1), (2, Ai p2)] fun fr H => ?_
 refine AD 2 (AM 2 [] H fun fr H => AQ (AD 8 (AE 3 [(14, .bool (decide (p2 < 0)))] H fun fr H => BD 5 (fun fr' h' => h = h' ∧ Has fr' 86 [(0, .Aq (Ej 256 (AB.int .u8) p0.Az ++ [Ai p0.Al, vs (eI .i32) p0.Ba, vs eB p0.BX, vs eB p0.BV, .int .i32 p0.Aj, .int .i32 p0.BN, .bool p0.BE])), (1, .str p1), (2, Ai p2), (19, .bool ((decide (p2 < 0)) || (decide (p2 > (p1.length : Int)))))]) ?_ ?_)))
 ·cases hb : (decide (p2 < 0) : Bool) with
  | true =>
   replace H := H.kn 14 hb
   exact AE 5 [(19, .bool true)] H fun fr H => Am H hb
  | false =>
   replace H := H.kn 14 hb
   exact AE 5 [(19, .bool (decide (p2 > (p1.length : Int))))] H fun fr H => Am H hb
 intro t fr h' hK
 obtain ⟨e, H⟩ := hK
 subst e
 refine BK id (AV 19 H hm (fun hb hm H => ?_) fun hb hm H => ?_)
 ·refine AD 2 (AM 2 [(6, Ai 0), (7, .bool false)] H fun fr H => Ag ?_)
  obtain ⟨rfl, rfl⟩ := Ds hm
  exact ⟨.inl rfl, _, rH H, rfl, A⟩
 refine CE id (AQ (AD 2 (AM 2 [(21, .bool (p1 == ([] : List UInt8)))] H fun fr H => AV 21 H hm (fun hb hm H => ?_) fun hb hm H => ?_)))
 ·refine AQ (EO 4 6 ?_)
  refine BI 3 [] 25 (.bool p0.BE) h H (fun fr => .of (FK (by kernel_rfl))) fun fr t H => ?_
  refine AM 2 [(6, Ai 0), (7, .bool p0.BE)] H fun fr H => Ag ?_
  obtain ⟨rfl, rfl⟩ := Ds hm
  exact ⟨.inl rfl, _, rH H, rfl, A⟩
 refine Ca 5 id (BI 3 [] 29 (.int .i32 p0.BN) h H (fun fr => .of (FK (by kernel_rfl))) fun fr t H => ?_)
 refine AM 1 [(8, .int .i32 p0.BN)] H fun fr H => AQ ?_
 obtain ⟨o1, ho, hm⟩ := bind_some hm
 refine As (Q' := fun e fr' h' => (∃ x1, e = .normal ∧ x1 = o1 ∧ Has fr' 86 [(0, .Aq (Ej 256 (AB.int .u8) p0.Az ++ [Ai p0.Al, vs (eI .i32) p0.Ba, vs eB p0.BX, vs eB p0.BV, .int .i32 p0.Aj, .int .i32 p0.BN, .bool p0.BE])), (1, .str p1), (2, Ai p2), (8, .int .i32 x1)] ∧ HH g h' [] F) ∨ False) ?_ ?_
 ·replace hm := ho
  clear ho
  refine AD 2 (AM 2 [(31, .bool (p2 == 0))] H fun fr H => AV 31 H hm (fun hb hm H => ?_) fun hb hm H => ?_)
  ·refine Bd 5 (BI 3 [] 35 (.int .i32 p0.Aj) h H (fun fr => .of (FK (by kernel_rfl))) fun fr t H => ?_)
   refine BG 1 [(0, .Aq (Ej 256 (AB.int .u8) p0.Az ++ [Ai p0.Al, vs (eI .i32) p0.Ba, vs eB p0.BX, vs eB p0.BV, .int .i32 p0.Aj, .int .i32 p0.BN, .bool p0.BE])), (1, .str p1), (2, Ai p2), (8, .int .i32 p0.Aj)] H fun fr H => at_nil ?_
   exact .inl ⟨_, rfl, Ah hm, H.ls, A⟩
  exact By (.inl ⟨_, rfl, Ah hm, H.ls, A⟩)
 clear ho
 clear A
 intro e fr h1 hQ
 rcases hQ with ⟨x1, rfl, rfl, H, A⟩ | hF
 ·show AW _ _ _ _ _ _ _
  refine AD 2 (AM 2 [(9, Ai 0), (10, .bool false)] H fun fr H => AQ (AD 2 (AM 2 [(11, Ai p2)] H fun fr H => Ac (id := 0) (by kernel_rfl) ?_)))
  obtain ⟨o2, ho, hm⟩ := bind_some hm
  refine As (Q' := fun e fr' h' => (∃ x6 x7, e = .exit 0 ∧ (x6, x7) = o2 ∧ Has fr' 86 [(9, Ai x6), (10, .bool x7)] ∧ HH g h' [] F) ∨ False) ?_ ?_
  ·refine B2 (by kernel_rfl) (fun (s : Int × Int × Bool × Int) fr' h' => ∃ x2 x3 x4 x5, (x2, x3, x4, x5) = s ∧ Has fr' 86 [(0, .Aq (Ej 256 (AB.int .u8) p0.Az ++ [Ai p0.Al, vs (eI .i32) p0.Ba, vs eB p0.BX, vs eB p0.BV, .int .i32 p0.Aj, .int .i32 p0.BN, .bool p0.BE])), (1, .str p1), (8, .int .i32 x2), (9, Ai x3), (10, .bool x4), (11, Ai x5)] ∧ HH g h' [] F) ho ⟨_, _, _, _, rfl, H.ls, A⟩ ?_
   clear ho hm H A
   intro s q fr h2 hI hm
   obtain ⟨x2, x3, x4, x5, rfl, H, A⟩ := hI
   unfold DQ at hm
   refine AQ (AD 2 (AM 2 [(38, .bool (decide (x2 ≥ 0)))] H fun fr H => AV 38 H hm (fun hb hm H => ?_) fun hb hm H => ?_))
   ·refine CE id (AQ (Ac (id := 1) (by kernel_rfl) ?_))
    refine AQ (AD 4 (AM 4 [(44, .bool (x5 == (p1.length : Int)))] H fun fr H => AV 44 H hm (fun hb hm H => ?_) fun hb hm H => ?_))
    ·refine AQ (AD 7 (BI 3 [] 48 (vs eB p0.BV) h2 H (fun fr => .of (FK (by kernel_rfl))) fun fr t H => ?_))
     obtain ⟨x8, hx, hm⟩ := bind_some hm
     refine BI 1 [] 50 (.Aq [.bool x8]) h2 H (fun fr => .of (Hl (e := eB) (x := x8) Fx (by decide) (by kernel_rfl) hx)) fun fr t H => ?_
     refine Ax 51 (.bool x8) h2 H (fun fr => .of (FK (by kernel_rfl))) fun fr t H => ?_
     refine BK id (AV 51 H hm (fun hb hm H => ?_) fun hb hm H => ?_)
     ·refine Bd 3 (BG 3 [(9, Ai x5), (10, .bool true)] H fun fr H => BK id (BO (i := 0) (by kernel_rfl) ?_))
      exact nr hm fun e => .inl ⟨_, _, rfl, e, H.ls, A⟩
     refine CE id (BO (i := 0) (by kernel_rfl) ?_)
     exact nr hm fun e => .inl ⟨_, _, rfl, e, H.ls, A⟩
    refine CE id (AQ ?_)
    obtain ⟨o3, ho, hm⟩ := bind_some hm
    refine As (Q' := fun e fr' h' => (∃ x9 x10, e = .normal ∧ (x9, x10) = o3 ∧ Has fr' 86 [(0, .Aq (Ej 256 (AB.int .u8) p0.Az ++ [Ai p0.Al, vs (eI .i32) p0.Ba, vs eB p0.BX, vs eB p0.BV, .int .i32 p0.Aj, .int .i32 p0.BN, .bool p0.BE])), (1, .str p1), (8, .int .i32 x2), (9, Ai x9), (10, .bool x10), (11, Ai x5)] ∧ HH g h' [] F) ∨ False) ?_ ?_
    ·replace hm := ho
     clear ho
     refine AD 7 (BI 3 [] 56 (vs eB p0.BX) h2 H (fun fr => .of (FK (by kernel_rfl))) fun fr t H => ?_)
     obtain ⟨x11, hx, hm⟩ := bind_some hm
     refine BI 1 [] 58 (.Aq [.bool x11]) h2 H (fun fr => .of (Hl (e := eB) (x := x11) Fx (by decide) (by kernel_rfl) hx)) fun fr t H => ?_
     refine Ax 59 (.bool x11) h2 H (fun fr => .of (FK (by kernel_rfl))) fun fr t H => ?_
     refine BK id (AV 59 H hm (fun hb hm H => ?_) fun hb hm H => ?_)
     ·refine Bd 3 (BG 3 [(0, .Aq (Ej 256 (AB.int .u8) p0.Az ++ [Ai p0.Al, vs (eI .i32) p0.Ba, vs eB p0.BX, vs eB p0.BV, .int .i32 p0.Aj, .int .i32 p0.BN, .bool p0.BE])), (1, .str p1), (8, .int .i32 x2), (9, Ai x5), (10, .bool true), (11, Ai x5)] H fun fr H => at_nil ?_)
      exact .inl ⟨_, _, rfl, Ah hm, H.ls, A⟩
     exact By (.inl ⟨_, _, rfl, Ah hm, H.ls, A⟩)
    clear ho
    clear A
    intro e fr h3 hQ
    rcases hQ with ⟨x9, x10, rfl, rfl, H, A⟩ | hF
    ·show AW _ _ _ _ _ _ _
     refine EO 17 24 ?_
     refine BI 3 [] 64 (vs (eI .i32) p0.Ba) h3 H (fun fr => .of (FK (by kernel_rfl))) fun fr t H => ?_
     refine BI 5 [(66, Ai (IntKind.i64.wrap x2))] 70 (Ai p0.Al) h3 H (fun fr => .of (FK (by kernel_rfl))) fun fr t H => ?_
     obtain ⟨x12, hx, hm⟩ := bind_some hm
     refine BI 4 [(71, Ai (IntKind.i64.wrap ((IntKind.i64.wrap x2) * p0.Al))), (72, .Aq (Ej 256 (AB.int .u8) p0.Az ++ [Ai p0.Al, vs (eI .i32) p0.Ba, vs eB p0.BX, vs eB p0.BV, .int .i32 p0.Aj, .int .i32 p0.BN, .bool p0.BE]))] 75 (Ab x12) h3 H (fun fr => .of (EL (by kernel_rfl) hx)) fun fr t H => ?_
     obtain ⟨x13, hq1, hm⟩ := bind_some hm
     obtain ⟨tl1, hd1⟩ := S9 (AB.int .u8) [Ai p0.Al, vs (eI .i32) p0.Ba, vs eB p0.BX, vs eB p0.BV, .int .i32 p0.Aj, .int .i32 p0.BN, .bool p0.BE] hq1
     refine BI 2 [] 78 (.Aq ([Ab x13] ++ tl1)) h3 H (fun fr => .of (Vu (X := p0.Az) (by kernel_rfl) hq1 hd1)) fun fr t H => ?_
     refine Ax 79 (Ab x13) h3 H (fun fr => .of (FK (by kernel_rfl))) fun fr t H => ?_
     obtain ⟨x14, hx, hm⟩ := bind_some hm
     refine BI 2 [] 82 (.Aq [.int .i32 x14]) h3 H (fun fr => .of (Hl (e := (eI .i32)) (x := x14) (encI .i32) (by decide) (by kernel_rfl) hx)) fun fr t H => ?_
     refine Ax 83 (.int .i32 x14) h3 H (fun fr => .of (FK (by kernel_rfl))) fun fr t H => ?_
     refine BG 1 [(0, .Aq (Ej 256 (AB.int .u8) p0.Az ++ [Ai p0.Al, vs (eI .i32) p0.Ba, vs eB p0.BX, vs eB p0.BV, .int .i32 p0.Aj, .int .i32 p0.BN, .bool p0.BE])), (1, .str p1), (8, .int .i32 x14), (9, Ai x9), (10, .bool x10), (11, Ai x5)] H fun fr H => Gq 3 id (BG 3 [(0, .Aq (Ej 256 (AB.int .u8) p0.Az ++ [Ai p0.Al, vs (eI .i32) p0.Ba, vs eB p0.BX, vs eB p0.BV, .int .i32 p0.Aj, .int .i32 p0.BN, .bool p0.BE])), (1, .str p1), (8, .int .i32 x14), (9, Ai x9), (10, .bool x10), (11, Ai (IntKind.i64.wrap (x5 + 1)))] H fun fr H => at_nil ?_)
     exact nx hm ⟨_, _, _, _, rfl, H.ls, A⟩
    exact hF.elim
   refine BO (i := 0) (by kernel_rfl) ?_
   exact nr hm fun e => .inl ⟨_, _, rfl, e, H.ls, A⟩
  clear ho
  clear A
  intro e fr h4 hQ
  rcases hQ with ⟨x6, x7, rfl, rfl, H, A⟩ | hF
  ·show AW _ _ _ _ _ _ _
   refine AD 4 (AM 4 [(6, Ai x6), (7, .bool x7)] H fun fr H => Ag ?_)
   obtain ⟨rfl, rfl⟩ := Ds hm
   exact ⟨.inl rfl, _, rH H, rfl, A⟩
  exact hF.elim
 exact hF.elim
def Gr (p0 : Bu) (p1 : List UInt8) (s : Int) : Option ((Int) ⊕ ((Unit) ⊕ (Int × Int × Bool))) :=
 match s with
 | x1 => Af (decide (x1 ≤ (p1.length : Int))) ((Ew p0 p1 x1).bind fun (x5, x6) => Af x6 (some (.inr (.inr (x1, x5, true)))) (some (.inl (IntKind.i64.wrap (x1 + 1))))) (some (.inr (.inl ())))
def D5 (p0 : Bu) (p1 : List UInt8) (p2 : Int) : Option (Int × Int × Bool) :=
 (loop (Gr p0 p1) (mx p2 (0 : Int))).bind fun o1 => (match o1 with | .inl _ => some ((0 : Int), (0 : Int), false) | .inr (x2, x3, x4) => some (x2, x3, x4))
theorem J5 {p0 p1 p2 q0 q1 q2} (hm : D5 p0 p1 p2 = some (q0, q1, q2)) (A : HH g h [] F) (hc : BZ (cfg.still 15) av = [.Aq (Ej 256 (AB.int .u8) p0.Az ++ [Ai p0.Al, vs (eI .i32) p0.Ba, vs eB p0.BX, vs eB p0.BV, .int .i32 p0.Aj, .int .i32 p0.BN, .bool p0.BE]), .str p1, Ai p2] := by kernel_rfl) : ∃ v h', Bg cfg g h 15 av v h' ∧ v = .tuple [Ai q0, Ai q1, .bool q2] ∧ HH g h' [] F := by
 refine E5 27 [.tmp 6, .tmp 7, .tmp 8] hc ?_
 clear hc
 unfold D5 at hm
 refine bg 27 [(0, .Aq (Ej 256 (AB.int .u8) p0.Az ++ [Ai p0.Al, vs (eI .i32) p0.Ba, vs eB p0.BX, vs eB p0.BV, .int .i32 p0.Aj, .int .i32 p0.BN, .bool p0.BE])), (1, .str p1), (2, Ai p2)] fun fr H => ?_
 refine AD 3 (AM 3 [] H fun fr H => AQ (AD 3 (AM 3 [(6, Ai (mx p2 (0 : Int)))] H fun fr H => Ac (id := 0) (by kernel_rfl) ?_)))
 obtain ⟨o1, ho, hm⟩ := bind_some hm
 refine As (Q' := fun e fr' h' => (e = .exit 0 ∧ .inl () = o1 ∧ Has fr' 27 [] ∧ HH g h' [] F) ∨ (∃ x2 x3 x4, e = .ret ∧ .inr (x2, x3, x4) = o1 ∧ Has fr' 27 [(6, Ai x2), (7, Ai x3), (8, .bool x4)] ∧ HH g h' [] F) ∨ False) ?_ ?_
 ·refine B2 (by kernel_rfl) (fun (s : Int) fr' h' => ∃ x1, x1 = s ∧ Has fr' 27 [(0, .Aq (Ej 256 (AB.int .u8) p0.Az ++ [Ai p0.Al, vs (eI .i32) p0.Ba, vs eB p0.BX, vs eB p0.BV, .int .i32 p0.Aj, .int .i32 p0.BN, .bool p0.BE])), (1, .str p1), (6, Ai x1)] ∧ HH g h' [] F) ho ⟨_, rfl, H.ls, A⟩ ?_
  clear ho hm H A
  intro s q fr h1 hI hm
  obtain ⟨x1, rfl, H, A⟩ := hI
  unfold Gr at hm
  refine AQ (AD 4 (AM 4 [(14, .bool (decide (x1 ≤ (p1.length : Int))))] H fun fr H => AV 14 H hm (fun hb hm H => ?_) fun hb hm H => ?_))
  ·refine CE id (AQ (Ac (id := 1) (by kernel_rfl) ?_))
   refine AD 9 ?_
   obtain ⟨⟨x5, x6⟩, hx, hm⟩ := bind_some hm
   obtain ⟨v1, h2, hr, rfl, A1⟩ := LI (av := [.Aq (Ej 256 (AB.int .u8) p0.Az ++ [Ai p0.Al, vs (eI .i32) p0.Ba, vs eB p0.BX, vs eB p0.BV, .int .i32 p0.Aj, .int .i32 p0.BN, .bool p0.BE]), .str p1, Ai x1]) hx (A.cut 0)
   replace A := A.Ea A1
   refine Ap 3 [] 21 hr H fun fr t H => ?_
   refine Bw 5 [(7, Ai x5), (8, .bool x6)] 1 H fun fr H => AM 1 [(24, .bool x6)] H fun fr H => AV 24 H hm (fun hb hm H => ?_) fun hb hm H => ?_
   ·refine AD 5 (BG 5 [(6, Ai x1), (7, Ai x5), (8, .bool true)] H fun fr H => BK id (Ag ?_))
    exact nr hm fun e => Or.inr (.inl ⟨_, _, _, rfl, e, H.ls, A⟩)
   refine KX 3 id (BG 3 [(0, .Aq (Ej 256 (AB.int .u8) p0.Az ++ [Ai p0.Al, vs (eI .i32) p0.Ba, vs eB p0.BX, vs eB p0.BV, .int .i32 p0.Aj, .int .i32 p0.BN, .bool p0.BE])), (1, .str p1), (6, Ai (IntKind.i64.wrap (x1 + 1)))] H fun fr H => at_nil ?_)
   exact nx hm ⟨_, rfl, H.ls, A⟩
  refine BO (i := 0) (by kernel_rfl) ?_
  exact nr hm fun e => .inl ⟨rfl, e, H.ls, A⟩
 clear ho
 clear A
 intro e fr h3 hQ
 rcases hQ with ⟨rfl, rfl, H, A⟩ | ⟨x2, x3, x4, rfl, rfl, H, A⟩ | hF
 ·show AW _ _ _ _ _ _ _
  refine AD 3 (AM 3 [(6, Ai 0), (7, Ai 0), (8, .bool false)] H fun fr H => Ag ?_)
  obtain ⟨rfl, rfl, rfl⟩ := DR hm
  exact ⟨.inl rfl, _, rH H, rfl, A⟩
 ·obtain ⟨rfl, rfl, rfl⟩ := DR hm
  exact ⟨.inl rfl, _, rH H, rfl, A⟩
 exact hF.elim
def Fi (p0 : Int) (p1 : Int) : Option (Int) :=
 Af ((((p1 == 2) || (p1 == 5)) && ((decide (p0 ≥ 97)) && (decide (p0 ≤ 122)))) || (((p1 == 3) || (p1 == 6)) && ((decide (p0 ≥ 65)) && (decide (p0 ≤ 90))))) ((I6 p0).bind fun x1 => some x1) (some p0)
theorem M7 {p0 p1 q0} (hm : Fi p0 p1 = some q0) (A : HH g h [] F) (hc : BZ (cfg.still 76) av = [Ab p0, Ai p1] := by kernel_rfl) : ∃ v h', Bg cfg g h 76 av v h' ∧ v = Ab q0 ∧ HH g h' [] F := by
 refine E5 42 [.tmp 4] hc ?_
 clear hc
 unfold Fi at hm
 refine bg 42 [(0, Ab p0), (1, Ai p1)] fun fr H => ?_
 refine AD 1 (Bw 1 [] 14 H fun fr H => AE 3 [(9, .bool (decide (p0 ≥ 97)))] H fun fr H => BD 3 (fun fr' h' => h = h' ∧ Has fr' 42 [(0, Ab p0), (1, Ai p1), (12, .bool ((decide (p0 ≥ 97)) && (decide (p0 ≤ 122))))]) ?_ ?_)
 ·cases hb : (decide (p0 ≥ 97) : Bool) with
  | true =>
   replace H := H.kn 9 hb
   exact AE 3 [(12, .bool (decide (p0 ≤ 122)))] H fun fr H => Am H hb
  | false =>
   replace H := H.kn 9 hb
   exact AE 3 [(12, .bool false)] H fun fr H => Am H hb
 intro t fr h' hK
 obtain ⟨e, H⟩ := hK
 subst e
 refine AE 3 [(15, .bool (decide (p0 ≥ 65)))] H fun fr H => BD 3 (fun fr' h' => h = h' ∧ Has fr' 42 [(0, Ab p0), (1, Ai p1), (12, .bool ((decide (p0 ≥ 97)) && (decide (p0 ≤ 122)))), (18, .bool ((decide (p0 ≥ 65)) && (decide (p0 ≤ 90))))]) ?_ ?_
 ·cases hb : (decide (p0 ≥ 65) : Bool) with
  | true =>
   replace H := H.kn 15 hb
   exact AE 3 [(18, .bool (decide (p0 ≤ 90)))] H fun fr H => Am H hb
  | false =>
   replace H := H.kn 15 hb
   exact AE 3 [(18, .bool false)] H fun fr H => Am H hb
 intro t fr h' hK
 obtain ⟨e, H⟩ := hK
 subst e
 refine AM 2 [(5, .bool ((decide (p0 ≥ 97)) && (decide (p0 ≤ 122)))), (6, .bool ((decide (p0 ≥ 65)) && (decide (p0 ≤ 90))))] H fun fr H => AQ (AD 20 (AE 3 [(21, .bool (p1 == 2))] H fun fr H => BD 3 (fun fr' h' => h = h' ∧ Has fr' 42 [(0, Ab p0), (1, Ai p1), (5, .bool ((decide (p0 ≥ 97)) && (decide (p0 ≤ 122)))), (6, .bool ((decide (p0 ≥ 65)) && (decide (p0 ≤ 90)))), (24, .bool ((p1 == 2) || (p1 == 5)))]) ?_ ?_))
 ·cases hb : (p1 == 2 : Bool) with
  | true =>
   replace H := H.kn 21 hb
   exact AE 3 [(24, .bool true)] H fun fr H => Am H hb
  | false =>
   replace H := H.kn 21 hb
   exact AE 3 [(24, .bool (p1 == 5))] H fun fr H => Am H hb
 intro t fr h' hK
 obtain ⟨e, H⟩ := hK
 subst e
 refine AE 1 [(25, .bool ((p1 == 2) || (p1 == 5)))] H fun fr H => BD 2 (fun fr' h' => h = h' ∧ Has fr' 42 [(0, Ab p0), (1, Ai p1), (6, .bool ((decide (p0 ≥ 65)) && (decide (p0 ≤ 90)))), (27, .bool (((p1 == 2) || (p1 == 5)) && ((decide (p0 ≥ 97)) && (decide (p0 ≤ 122)))))]) ?_ ?_
 ·cases hb : ((p1 == 2) || (p1 == 5) : Bool) with
  | true =>
   replace H := H.kn 25 hb
   exact AE 2 [(27, .bool ((decide (p0 ≥ 97)) && (decide (p0 ≤ 122))))] H fun fr H => Am H hb
  | false =>
   replace H := H.kn 25 hb
   exact AE 2 [(27, .bool false)] H fun fr H => Am H hb
 intro t fr h' hK
 obtain ⟨e, H⟩ := hK
 subst e
 refine AE 1 [(28, .bool (((p1 == 2) || (p1 == 5)) && ((decide (p0 ≥ 97)) && (decide (p0 ≤ 122)))))] H fun fr H => BD 10 (fun fr' h' => h = h' ∧ Has fr' 42 [(0, Ab p0), (38, .bool ((((p1 == 2) || (p1 == 5)) && ((decide (p0 ≥ 97)) && (decide (p0 ≤ 122)))) || (((p1 == 3) || (p1 == 6)) && ((decide (p0 ≥ 65)) && (decide (p0 ≤ 90))))))]) ?_ ?_
 ·cases hb : (((p1 == 2) || (p1 == 5)) && ((decide (p0 ≥ 97)) && (decide (p0 ≤ 122))) : Bool) with
  | true =>
   replace H := H.kn 28 hb
   exact AE 10 [(38, .bool true)] H fun fr H => Am H hb
  | false =>
   replace H := H.kn 28 hb
   refine AE 3 [(31, .bool (p1 == 3))] H fun fr H => BD 3 (fun fr' h' => h = h' ∧ Has fr' 42 [(0, Ab p0), (6, .bool ((decide (p0 ≥ 65)) && (decide (p0 ≤ 90)))), (28, .bool false), (34, .bool ((p1 == 3) || (p1 == 6)))]) ?_ ?_
   ·cases hb : (p1 == 3 : Bool) with
    | true =>
     replace H := H.kn 31 hb
     exact AE 3 [(34, .bool true)] H fun fr H => Am H hb
    | false =>
     replace H := H.kn 31 hb
     exact AE 3 [(34, .bool (p1 == 6))] H fun fr H => Am H hb
   intro t fr h' hK
   obtain ⟨e, H⟩ := hK
   subst e
   refine AE 1 [(35, .bool ((p1 == 3) || (p1 == 6)))] H fun fr H => BD 2 (fun fr' h' => h = h' ∧ Has fr' 42 [(0, Ab p0), (28, .bool false), (37, .bool (((p1 == 3) || (p1 == 6)) && ((decide (p0 ≥ 65)) && (decide (p0 ≤ 90)))))]) ?_ ?_
   ·cases hb : ((p1 == 3) || (p1 == 6) : Bool) with
    | true =>
     replace H := H.kn 35 hb
     exact AE 2 [(37, .bool ((decide (p0 ≥ 65)) && (decide (p0 ≤ 90))))] H fun fr H => Am H hb
    | false =>
     replace H := H.kn 35 hb
     exact AE 2 [(37, .bool false)] H fun fr H => Am H hb
   intro t fr h' hK
   obtain ⟨e, H⟩ := hK
   subst e
   exact AE 1 [(38, .bool (((p1 == 3) || (p1 == 6)) && ((decide (p0 ≥ 65)) && (decide (p0 ≤ 90)))))] H fun fr H => Am H hb
 intro t fr h' hK
 obtain ⟨e, H⟩ := hK
 subst e
 refine BK id (AV 38 H hm (fun hb hm H => ?_) fun hb hm H => ?_)
 ·refine AD 3 ?_
  obtain ⟨x1, hx, hm⟩ := bind_some hm
  obtain ⟨v1, h1, hr, rfl, A1⟩ := NU (av := [Ab p0]) hx (A.cut 0)
  replace A := A.Ea A1
  refine Ap 1 [] 40 hr H fun fr t H => ?_
  refine AM 1 [(4, Ab x1)] H fun fr H => Ag ?_
  obtain rfl := Ah hm
  exact ⟨.inl rfl, _, rH H, rfl, A⟩
 refine Ca 2 id (AM 2 [(4, Ab p0)] H fun fr H => Ag ?_)
 obtain rfl := Ah hm
 exact ⟨.inl rfl, _, rH H, rfl, A⟩
def Dc (p0 : Da) (p1 : List UInt8) (s : Int × (List UInt8) × Int) : Option ((Int × (List UInt8) × Int) ⊕ ((Int × (List UInt8)))) :=
 match s with
 | (x1, x2, x3) => Af (decide (x3 < (p1.length : Int))) ((Af (x1 != 0) (some ((0 : Int), x1)) (some (x1, p0.M3)) : Option ((Int × Int))).bind fun (x6, x7) => (Jf p1 x3).bind fun x8 => (Fi x8 x7).bind fun x9 => (RB x9).bind fun x10 => Cm (KI 1 (x2.length + ([x10] : List UInt8).length)) <| some (.inl (x6, (x2 ++ ([x10] : List UInt8)), IntKind.i64.wrap (x3 + 1)))) (some (.inr (x1, x2)))
def CV (p0 : Da) (p1 : List UInt8) : Option (Da × (List UInt8)) :=
 (loop (Dc p0 p1) (p0.Ba, p0.WA, (0 : Int))).bind fun (x4, x5) => some ((⟨x5, p0.M3, x4⟩ : Da), x5)
theorem F3 {p0 p1 bp0 rp0_0 u0 u1} (hm : CV p0 p1 = some (u0, u1)) (A : HH g h [.obj bp0 (.cells none 2 (JH p0 (AG rp0_0 p0.WA.length))), .AO rp0_0 5 (AO eY p0.WA)] F) (hc : BZ (cfg.still 57) av = [.ptr (some (bp0, 0)), .str p1] := by kernel_rfl) : ∃ v h', Bg cfg g h 57 av v h' ∧ ∃ (r'1 : Option Nat), v = .tuple [] ∧ HH g h' [.obj bp0 (.cells none 2 (JH u0 (AG r'1 u1.length))), .AO r'1 5 (AO eY u1)] F := by
 refine E5 42 [] hc ?_
 clear hc
 unfold CV at hm
 refine bg 42 [(0, .ptr (some (bp0, 0))), (1, .str p1)] fun fr H => ?_
 refine AD 3 (AM 3 [(7, Ai (p1.length : Int)), (8, Ai 0)] H fun fr H => Ac (id := 0) (by kernel_rfl) ?_)
 obtain ⟨o1, ho, hm⟩ := bind_some hm
 refine As (Q' := fun e fr' h' => (∃ x4 x5, e = .exit 0 ∧ (x4, x5) = o1 ∧ ∃ r2, Has fr' 42 [] ∧ HH g h' [.obj bp0 (.cells none 2 [AG r2 x5.length, Ai p0.M3, Ai x4]), .AO r2 5 (AO eY x5)] F) ∨ False) ?_ ?_
 ·refine B2 (by kernel_rfl) (fun (s : Int × (List UInt8) × Int) fr' h' => ∃ x1 x2 x3, (x1, x2, x3) = s ∧ ∃ r1, Has fr' 42 [(0, .ptr (some (bp0, 0))), (1, .str p1), (7, Ai (p1.length : Int)), (8, Ai x3)] ∧ HH g h' [.obj bp0 (.cells none 2 [AG r1 x2.length, Ai p0.M3, Ai x1]), .AO r1 5 (AO eY x2)] F) ho ⟨_, _, _, rfl, rp0_0, H.ls, A⟩ ?_
  clear ho hm H A
  intro s q fr h1 hI hm
  obtain ⟨x1, x2, x3, rfl, r1, H, A⟩ := hI
  unfold Dc at hm
  refine AD 1 (AM 1 [(9, .bool (decide (x3 < (p1.length : Int))))] H fun fr H => AQ (AV 9 H hm (fun hb hm H => ?_) fun hb hm H => ?_))
  ·refine CE id (AQ (Ac (id := 1) (by kernel_rfl) ?_))
   refine AD 2 (Bw 2 [(4, Ai x3)] 5 H fun fr H => Ad 3 [] 14 0 1 A H fun fr t H => ?_)
   refine AM 1 [(5, Ai p0.M3)] H fun fr H => AQ ?_
   obtain ⟨o2, ho, hm⟩ := bind_some hm
   refine As (Q' := fun e fr' h' => (∃ x6 x7, e = .normal ∧ (x6, x7) = o2 ∧ Has fr' 42 [(0, .ptr (some (bp0, 0))), (1, .str p1), (4, Ai x3), (5, Ai x7), (7, Ai (p1.length : Int)), (8, Ai x3)] ∧ HH g h' [.obj bp0 (.cells none 2 [AG r1 x2.length, Ai p0.M3, Ai x6]), .AO r1 5 (AO eY x2)] F) ∨ False) ?_ ?_
   ·replace hm := ho
    clear ho
    refine AD 5 (Ad 3 [] 18 0 2 A H fun fr t H => ?_)
    refine AM 1 [(19, .bool (x1 != 0))] H fun fr H => AV 19 H hm (fun hb hm H => ?_) fun hb hm H => ?_
    ·refine Bd 9 (Ad 4 [(20, .ptr (some (bp0, 0)))] 24 0 2 A H fun fr t H => ?_)
     refine BG 3 [(0, .ptr (some (bp0, 0))), (1, .str p1), (4, Ai x3), (5, Ai x1), (7, Ai (p1.length : Int)), (8, Ai x3), (26, .ptr (some (bp0, 2)))] H fun fr H => ?_
     obtain ⟨h2, hx, A⟩ := A.s0 2 [Ai 0] [_, _, _]
     refine Kh hx H fun fr t H => ?_
     refine at_nil ?_
     exact .inl ⟨_, _, rfl, Ah hm, H.ls, A⟩
    exact By (.inl ⟨_, _, rfl, Ah hm, H.ls, A⟩)
   clear ho
   clear A
   intro e fr h3 hQ
   rcases hQ with ⟨x6, x7, rfl, rfl, H, A⟩ | hF
   ·show AW _ _ _ _ _ _ _
    refine Ft 6 15 [(0, []), (1, []), (2, []), (3, []), (4, []), (5, []), (6, []), (7, []), (8, []), (9, [4]), (10, []), (11, []), (12, []), (13, []), (14, [])] ?_
    refine AE 4 [(27, .ptr (some (bp0, 0))), (30, .ptr (some (bp0, 0)))] H fun fr H => BT 31 (AG r1 x2.length) h3 [(4, bp0)] (g.BR) H (fun fr => .of (Dd (by kernel_rfl) (A.l1 0 0))) (fun fr H => ?_)
    refine AE 2 [(32, .str p1), (33, Ai x3)] H fun fr H => ?_
    obtain ⟨x8, hx, hm⟩ := bind_some hm
    refine BT 34 (Ab x8) h3 [(4, bp0)] (g.BR) H (fun fr => .of (EL (by kernel_rfl) hx)) (fun fr H => ?_)
    refine AE 1 [(35, Ai x7)] H fun fr H => ?_
    have A1 := A.Fe 0 (pr := [bp0]) (.cons 0 rfl (by simp [Ck.ids]) .nil)
    obtain ⟨x9, hx, hm⟩ := bind_some hm
    obtain ⟨v1, h4, hr, rfl, A1⟩ := M7 (av := [Ab x8, Ai x7]) hx A1
    replace A := A.Tu A1
    refine BT 36 (Ab x9) h4 [(4, bp0)] (bp0 :: g.BR) H (fun fr => Steps.call (by kernel_rfl) hr) (fun fr H => ?_)
    obtain ⟨x10, hx, hm⟩ := bind_some hm
    have hx := LY hx
    have kH := hm
    have kA := A
    have kR := H
    subst hx
    have hm := kH
    have A := kA
    have H := kR
    clear kH kA kR
    obtain ⟨h5, e1, A⟩ := A.pL 5 [Ab (x10.toNat : Int)]
    refine BT 37 (AG (some h4.size) (([x10] : List UInt8).length)) h5 [(10, h4.size), (4, bp0)] (g.BR) H (fun fr => .of (OQ (by kernel_rfl) (congrArg some e1.symm))) (fun fr H => ?_)
    obtain ⟨hb, hm⟩ := BQ hm
    obtain ⟨r3, h6, hx, A1⟩ := HH.Hd J1 (by decide) A 2 (xs := x2) (ys := ([x10] : List UInt8)) rfl (B6 A 0 rfl (n := ([x10] : List UInt8).length) (z := 1) rfl (by decide)) rfl rfl hb
    replace A : HH g h6 [.AO (some h4.size) 5 ([Ab (x10.toNat : Int)]), _, .AO r3 5 (AO eY (x2 ++ ([x10] : List UInt8)))] F := A1
    replace A := A.k2 1 2
    refine BT 38 (AG r3 ((x2 ++ ([x10] : List UInt8)).length)) h6 [(10, h4.size), (4, bp0)] (g.BR) H (fun fr => .of (Er (s := Cf r1 x2.length) (by kernel_rfl) hx)) (fun fr H => ?_)
    refine AE 2 [(40, .ptr (some (bp0, 0)))] H fun fr H => ?_
    obtain ⟨h7, hx, A1⟩ := A.st 0 rfl (o := 0) (new := [AG r3 ((x2 ++ ([x10] : List UInt8)).length)]) (ds := [AG r3 ((x2 ++ ([x10] : List UInt8)).length), Ai p0.M3, Ai x6]) (Nat.le_of_ble_eq_true rfl) rfl rfl
    replace A : HH g h7 [.obj bp0 (.cells none 2 [AG r3 ((x2 ++ ([x10] : List UInt8)).length), _, _]), _] F := A1
    refine Gj (.tuple []) h7 [(10, h4.size), (4, bp0)] (g.BR) H (fun fr => .of (MS (by kernel_rfl) rfl hx)) (fun fr H => ?_)
    refine Gq 2 id (BG 2 [(0, .ptr (some (bp0, 0))), (1, .str p1), (7, Ai (p1.length : Int)), (8, Ai (IntKind.i64.wrap (x3 + 1)))] H fun fr H => at_nil ?_)
    exact nx hm ⟨_, _, _, rfl, _, H.ls, A⟩
   exact hF.elim
  refine BO (i := 0) (by kernel_rfl) ?_
  exact nr hm fun e => .inl ⟨_, _, rfl, e, _, H.ls, A⟩
 clear ho
 clear A
 intro e fr h8 hQ
 rcases hQ with ⟨x4, x5, rfl, rfl, r2, H, A⟩ | hF
 ·obtain ⟨rfl, rfl⟩ := Ds hm
  refine ⟨.inr rfl, .tuple [], rH H, ?_⟩
  exact ⟨r2, rfl, A⟩
 exact hF.elim
def FY (p0 : List UInt8) (p1 : B3) : Option ((List UInt8)) :=
 Af ((((!p1.Is) || (decide (p1.J9 < 0))) || (decide (p1.To < p1.J9))) || (decide (p1.To > (p0.length : Int)))) (some ([] : List UInt8)) ((IB p0 (some p1.J9) (some p1.To)).bind fun x1 => some x1)
theorem Nj {p0 p1 q0} (hm : FY p0 p1 = some q0) (A : HH g h [] F) (hc : BZ (cfg.still 58) av = [.str p0, .agg (CB p1)] := by kernel_rfl) : ∃ v h', Bg cfg g h 58 av v h' ∧ v = .str q0 ∧ HH g h' [] F := by
 refine E5 33 [.tmp 4] hc ?_
 clear hc
 unfold FY at hm
 refine bg 33 [(0, .str p0), (1, .agg (CB p1))] fun fr H => ?_
 refine AD 2 ?_
 obtain ⟨h1, e1, A⟩ := A.pu (.cells none 2 (CB p1))
 refine Bo 3 (.ptr (some (h.size, 0))) e1 H fun fr t H => ?_
 refine AM 1 [] H fun fr H => AQ (AD 22 (Ad 1 [] 6 0 2 A H fun fr t H => ?_))
 refine AE 2 [(8, .bool (!p1.Is))] H fun fr H => BD 4 (fun fr' h' => h1 = h' ∧ Has fr' 33 [(0, .str p0), (3, .ptr (some (h.size, 0))), (12, .bool ((!p1.Is) || (decide (p1.J9 < 0))))]) ?_ ?_
 ·cases hb : (!p1.Is : Bool) with
  | true =>
   replace H := H.kn 8 hb
   exact AE 4 [(12, .bool true)] H fun fr H => Am H hb
  | false =>
   replace H := H.kn 8 hb
   refine Ad 1 [] 10 0 0 A H fun fr t H => ?_
   exact AE 2 [(12, .bool (decide (p1.J9 < 0)))] H fun fr H => Am H hb
 intro t fr h' hK
 obtain ⟨e, H⟩ := hK
 subst e
 refine AE 1 [(13, .bool ((!p1.Is) || (decide (p1.J9 < 0))))] H fun fr H => BD 6 (fun fr' h' => h1 = h' ∧ Has fr' 33 [(0, .str p0), (3, .ptr (some (h.size, 0))), (19, .bool (((!p1.Is) || (decide (p1.J9 < 0))) || (decide (p1.To < p1.J9))))]) ?_ ?_
 ·cases hb : ((!p1.Is) || (decide (p1.J9 < 0)) : Bool) with
  | true =>
   replace H := H.kn 13 hb
   exact AE 6 [(19, .bool true)] H fun fr H => Am H hb
  | false =>
   replace H := H.kn 13 hb
   refine Ad 1 [] 15 0 1 A H fun fr t H => ?_
   refine Ad 1 [] 17 0 0 A H fun fr t H => ?_
   exact AE 2 [(19, .bool (decide (p1.To < p1.J9)))] H fun fr H => Am H hb
 intro t fr h' hK
 obtain ⟨e, H⟩ := hK
 subst e
 refine AE 1 [(20, .bool (((!p1.Is) || (decide (p1.J9 < 0))) || (decide (p1.To < p1.J9))))] H fun fr H => BD 6 (fun fr' h' => h1 = h' ∧ Has fr' 33 [(0, .str p0), (3, .ptr (some (h.size, 0))), (26, .bool ((((!p1.Is) || (decide (p1.J9 < 0))) || (decide (p1.To < p1.J9))) || (decide (p1.To > (p0.length : Int)))))]) ?_ ?_
 ·cases hb : (((!p1.Is) || (decide (p1.J9 < 0))) || (decide (p1.To < p1.J9)) : Bool) with
  | true =>
   replace H := H.kn 20 hb
   exact AE 6 [(26, .bool true)] H fun fr H => Am H hb
  | false =>
   replace H := H.kn 20 hb
   refine Ad 1 [] 22 0 1 A H fun fr t H => ?_
   exact AE 4 [(26, .bool (decide (p1.To > (p0.length : Int))))] H fun fr H => Am H hb
 intro t fr h' hK
 obtain ⟨e, H⟩ := hK
 subst e
 refine BK id (AV 26 H hm (fun hb hm H => ?_) fun hb hm H => ?_)
 ·refine AD 1 (AM 1 [(4, .str ([] : List UInt8))] H fun fr H => Ag ?_)
  obtain rfl := Ah hm
  refine ⟨.inl rfl, .str ([] : List UInt8), rH H, ?_⟩
  replace A := A.d0
  exact ⟨rfl, A⟩
 refine Ca 7 id (Ad 2 [(27, .str p0)] 29 0 0 A H fun fr t H => ?_)
 refine Ad 1 [] 31 0 1 A H fun fr t H => ?_
 obtain ⟨x1, hx, hm⟩ := bind_some hm
 refine Ax 32 (.str x1) h1 H (fun fr => .of (Gp (k := .i64) (k' := .i64) (lo := (some p1.J9)) (hi := (some p1.To)) (by kernel_rfl) hx)) fun fr t H => ?_
 refine AM 1 [(4, .str x1)] H fun fr H => Ag ?_
 obtain rfl := Ah hm
 refine ⟨.inl rfl, .str x1, rH H, ?_⟩
 replace A := A.d0
 exact ⟨rfl, A⟩
def ER (p0 : List AY) (p1 : List UInt8) (p2 : List B3) (s : (List UInt8) × Int × Int × Int) : Option (((List UInt8) × Int × Int × Int) ⊕ (((List UInt8) × Int × Int))) :=
 match s with
 | (x1, x2, x3, x4) => Af (decide (x4 < (p0.length : Int))) (((Ff p0 x4).bind fun x11 => Af (x11.Kind == 0) ((CV (⟨x1, x2, x3⟩ : Da) x11.Bytes).bind fun (x12, x13) => some (x13, x12.M3, x12.Ba)) (Af (x11.Kind == 1) (Af ((decide (x11.C4 ≥ 0)) && (decide (x11.C4 < (p2.length : Int)))) ((Ff p2 x11.C4).bind fun x14 => (FY p1 x14).bind fun x15 => (CV (⟨x1, x2, x3⟩ : Da) x15).bind fun (x16, x17) => some (x17, x16.M3, x16.Ba)) (some (x1, x2, x3))) ((Af (x11.Kind == 2) (some true) (Af (x11.Kind == 3) (some true) (some (x11.Kind == 4))) : Option ((Bool))).bind fun x18 => Af x18 (some (x1, x11.Kind, x3)) ((Af (x11.Kind == 5) (some true) (some (x11.Kind == 6)) : Option ((Bool))).bind fun x19 => Af x19 (some (x1, x2, x11.Kind)) (some (x1, x2, x3))))) : Option (((List UInt8) × Int × Int))).bind fun (x8, x9, x10) => some (.inl (x8, x9, x10, IntKind.i64.wrap (x4 + 1)))) (some (.inr (x1, x2, x3)))
def EN (p0 : List AY) (p1 : List UInt8) (p2 : List B3) : Option ((List UInt8)) :=
 (loop (ER p0 p1 p2) (([] : List UInt8), (4 : Int), (0 : Int), (0 : Int))).bind fun (x5, x6, x7) => some x5
theorem Ka {p0 p1 p2 rp2 q0} (hm : EN p0 p1 p2 = some q0) (A : HH g h [.AO rp2 100 (AO CB p2)] F) (hc : BZ (cfg.still 38) av = [vs AS p0, .str p1, AG rp2 p2.length] := by kernel_rfl) : ∃ v h', Bg cfg g h 38 av v h' ∧ v = .str q0 ∧ HH g h' [.AO rp2 100 (AO CB p2)] F := by
 refine E5 70 [.tmp 6] hc ?_
 clear hc
 unfold EN at hm
 refine bg 70 [(0, vs AS p0), (1, .str p1), (2, AG rp2 p2.length)] fun fr H => ?_
 refine AD 1 (Bw 1 [] 3 H fun fr H => ?_)
 obtain ⟨h1, e1, A⟩ := A.pu (.cells none 2 [.slice none 0, Ai 4, Ai 0])
 refine F8 1 [] 11 (.ptr (some (h.size, 0))) e1 H fun fr t H => ?_
 refine AM 1 [(7, .ptr (some (h.size, 0)))] H fun fr H => AQ (AD 3 (AM 3 [(12, vs AS p0), (13, Ai (p0.length : Int)), (14, Ai 0)] H fun fr H => Ac (id := 0) (by kernel_rfl) ?_))
 replace A : HH g h1 [.AO none 5 (AO eY ([] : List UInt8)), .obj h.size (.cells none 2 [.slice none 0, Ai 4, Ai 0]), _] F := A.IY 5
 obtain ⟨o1, ho, hm⟩ := bind_some hm
 refine As (Q' := fun e fr' h' => (∃ x5 x6 x7, e = .exit 0 ∧ (x5, x6, x7) = o1 ∧ ∃ r2, Has fr' 70 [(7, .ptr (some (h.size, 0)))] ∧ HH g h' [.AO r2 5 (AO eY x5), .obj h.size (.cells none 2 [AG r2 x5.length, Ai x6, Ai x7]), .AO rp2 100 (AO CB p2)] F) ∨ False) ?_ ?_
 ·refine B2 (by kernel_rfl) (fun (s : (List UInt8) × Int × Int × Int) fr' h' => ∃ x1 x2 x3 x4, (x1, x2, x3, x4) = s ∧ ∃ r1, Has fr' 70 [(1, .str p1), (2, AG rp2 p2.length), (7, .ptr (some (h.size, 0))), (12, vs AS p0), (13, Ai (p0.length : Int)), (14, Ai x4)] ∧ HH g h' [.AO r1 5 (AO eY x1), .obj h.size (.cells none 2 [AG r1 x1.length, Ai x2, Ai x3]), .AO rp2 100 (AO CB p2)] F) ho ⟨_, _, _, _, rfl, none, H.ls, A⟩ ?_
  clear ho hm H A
  intro s q fr h2 hI hm
  obtain ⟨x1, x2, x3, x4, rfl, r1, H, A⟩ := hI
  unfold ER at hm
  refine AD 1 (AM 1 [(15, .bool (decide (x4 < (p0.length : Int))))] H fun fr H => AQ (AV 15 H hm (fun hb hm H => ?_) fun hb hm H => ?_))
  ·refine CE id (AQ ?_)
   obtain ⟨o2, ho, hm⟩ := bind_some hm
   refine As (Q' := fun e fr' h' => (∃ x8 x9 x10, e = .normal ∧ (x8, x9, x10) = o2 ∧ ∃ r3, Has fr' 70 [(1, .str p1), (2, AG rp2 p2.length), (7, .ptr (some (h.size, 0))), (12, vs AS p0), (13, Ai (p0.length : Int)), (14, Ai x4)] ∧ HH g h' [.AO r3 5 (AO eY x8), .obj h.size (.cells none 2 [AG r3 x8.length, Ai x9, Ai x10]), .AO rp2 100 (AO CB p2)] F) ∨ False) ?_ ?_
   ·replace hm := ho
    clear ho
    refine Ac (id := 1) (by kernel_rfl) ?_
    refine AD 4 ?_
    obtain ⟨x11, hx, hm⟩ := bind_some hm
    refine Ax 16 (.Aq (AS x11)) h2 H (fun fr => .of (Hl (e := AS) (x := x11) B1 (by decide) (by kernel_rfl) hx)) fun fr t H => ?_
    refine Ax 17 (.agg (AS x11)) h2 H (fun fr => .of (FK (by kernel_rfl))) fun fr t H => ?_
    obtain ⟨h3, e2, A⟩ := A.pu (.cells none 2 [Ai 0, Ai 0, .str ([] : List UInt8)])
    refine Bo 9 (.ptr (some (h2.size, 0))) e2 H fun fr t H => ?_
    obtain ⟨h4, hx, A⟩ := A.s0 0 (AS x11) [_, _, _]
    refine DN hx H fun fr t H => ?_
    refine CG 2 id (Ad 1 [] 19 0 0 A H fun fr t H => ?_)
    refine BK id (Ac (id := 2) (by kernel_rfl) ?_)
    refine AD 2 (AM 2 [(20, .bool (x11.Kind == 0))] H fun fr H => AV 20 H hm (fun hb hm H => ?_) fun hb hm H => ?_)
    ·refine Bd 4 (Ad 2 [(22, .ptr (some (h.size, 0)))] 24 0 2 A H fun fr t H => ?_)
     replace A := A.k4 2 1 0 3
     obtain ⟨⟨x12, x13⟩, hx, hm⟩ := bind_some hm
     obtain ⟨v1, h5, hr, r4, rfl, A1⟩ := F3 (av := [.ptr (some (h.size, 0)), .str x11.Bytes]) hx (A.cut 2)
     replace A := A.g22 A1
     refine MF hr H fun fr t H => ?_
     refine at_nil ?_
     replace A := A.k3 1 0 3
     exact .inl ⟨_, _, _, rfl, Ah hm, _, H.ls, A⟩
    refine AD 2 (AM 2 [(26, .bool (x11.Kind == 1))] H fun fr H => AV 26 H hm (fun hb hm H => ?_) fun hb hm H => ?_)
    ·refine AD 10 (Ad 1 [] 29 0 1 A H fun fr t H => ?_)
     refine AE 2 [(31, .bool (decide (x11.C4 ≥ 0)))] H fun fr H => BD 6 (fun fr' h' => h4 = h' ∧ Has fr' 70 [(1, .str p1), (2, AG rp2 p2.length), (7, .ptr (some (h.size, 0))), (9, .ptr (some (h2.size, 0))), (12, vs AS p0), (13, Ai (p0.length : Int)), (14, Ai x4), (37, .bool ((decide (x11.C4 ≥ 0)) && (decide (x11.C4 < (p2.length : Int)))))]) ?_ ?_
     ·cases hb : (decide (x11.C4 ≥ 0) : Bool) with
      | true =>
       replace H := H.kn 31 hb
       refine Ad 1 [] 33 0 1 A H fun fr t H => ?_
       exact AE 4 [(37, .bool (decide (x11.C4 < (p2.length : Int))))] H fun fr H => Am H hb
      | false =>
       replace H := H.kn 31 hb
       exact AE 6 [(37, .bool false)] H fun fr H => Am H hb
     intro t fr h' hK
     obtain ⟨e, H⟩ := hK
     subst e
     refine BK id (AV 37 H hm (fun hb hm H => ?_) fun hb hm H => ?_)
     ·refine Bd 9 (Ad 4 [(38, .ptr (some (h.size, 0))), (39, .str p1), (40, AG rp2 p2.length)] 42 0 1 A H fun fr t H => ?_)
      obtain ⟨x14, hx, hm⟩ := bind_some hm
      obtain ⟨i1, er1, _, hx, hq1⟩ := HH.ND Ir (by decide) A 3 (xs := p2) rfl hx
      refine Ax 43 (.ptr (some (i1, x11.C4.toNat * 3))) h4 H (fun fr => .of (FI (s := Cf rp2 p2.length) (by kernel_rfl) hx)) fun fr t H => ?_
      refine Ax 44 _ _ H (fun fr => .of (CD (by kernel_rfl) (PF Ir (HH.row A 3 rfl er1) hq1 0 3 (Nat.le_of_ble_eq_true rfl)))) fun fr t H => ?_
      obtain ⟨x15, hx, hm⟩ := bind_some hm
      obtain ⟨v1, h6, hr, rfl, A1⟩ := Nj (av := [.str p1, .agg (CB x14)]) hx (A.cut 0)
      replace A := A.Ea A1
      refine Be 45 hr H fun fr t H => ?_
      replace A := A.k4 2 1 0 3
      obtain ⟨⟨x16, x17⟩, hx, hm⟩ := bind_some hm
      obtain ⟨v1, h7, hr, r5, rfl, A1⟩ := F3 (av := [.ptr (some (h.size, 0)), .str x15]) hx (A.cut 2)
      replace A := A.g22 A1
      refine MF hr H fun fr t H => ?_
      refine at_nil ?_
      replace A := A.k3 1 0 3
      exact .inl ⟨_, _, _, rfl, Ah hm, _, H.ls, A⟩
     refine By ?_
     replace A := A.k3 1 2 3
     exact .inl ⟨_, _, _, rfl, Ah hm, _, H.ls, A⟩
    refine AQ ?_
    obtain ⟨o3, ho, hm⟩ := bind_some hm
    refine As (Q' := fun e fr' h' => (∃ x18, e = .normal ∧ x18 = o3 ∧ Has fr' 70 [(1, .str p1), (2, AG rp2 p2.length), (7, .ptr (some (h.size, 0))), (9, .ptr (some (h2.size, 0))), (12, vs AS p0), (13, Ai (p0.length : Int)), (14, Ai x4), (19, Ai x11.Kind), (47, .bool x18)] ∧ HH g h' [.obj h2.size (.cells none 2 (AS x11)), .AO r1 5 (AO eY x1), .obj h.size (.cells none 2 [AG r1 x1.length, Ai x2, Ai x3]), .AO rp2 100 (AO CB p2)] F) ∨ False) ?_ ?_
    ·replace hm := ho
     clear ho
     refine AD 2 (AM 2 [(47, .bool (x11.Kind == 2))] H fun fr H => AV 47 H hm (fun hb hm H => ?_) fun hb hm H => ?_)
     ·exact By (.inl ⟨_, rfl, Ah hm, H.ls, A⟩)
     refine AD 2 (BG 2 [(1, .str p1), (2, AG rp2 p2.length), (7, .ptr (some (h.size, 0))), (9, .ptr (some (h2.size, 0))), (12, vs AS p0), (13, Ai (p0.length : Int)), (14, Ai x4), (19, Ai x11.Kind), (47, .bool (x11.Kind == 3))] H fun fr H => BK id (AV 47 H hm (fun hb hm H => ?_) fun hb hm H => ?_))
     ·exact By (.inl ⟨_, rfl, Ah hm, H.ls, A⟩)
     refine Bd 2 (BG 2 [(1, .str p1), (2, AG rp2 p2.length), (7, .ptr (some (h.size, 0))), (9, .ptr (some (h2.size, 0))), (12, vs AS p0), (13, Ai (p0.length : Int)), (14, Ai x4), (19, Ai x11.Kind), (47, .bool (x11.Kind == 4))] H fun fr H => at_nil ?_)
     exact .inl ⟨_, rfl, Ah hm, H.ls, A⟩
    clear ho
    clear A
    intro e fr h8 hQ
    rcases hQ with ⟨x18, rfl, rfl, H, A⟩ | hF
    ·show AW _ _ _ _ _ _ _
     refine AV 47 H hm (fun hb hm H => ?_) fun hb hm H => ?_
     ·refine Bd 6 (Ad 2 [(51, .ptr (some (h.size, 0)))] 53 0 0 A H fun fr t H => ?_)
      obtain ⟨h9, hx, A⟩ := A.s2 1 [Ai x11.Kind] [_, _, _]
      refine C1 2 [] hx H fun fr t H => ?_
      refine at_nil ?_
      replace A := A.k3 1 2 3
      exact .inl ⟨_, _, _, rfl, Ah hm, _, H.ls, A⟩
     refine AQ ?_
     obtain ⟨o4, ho, hm⟩ := bind_some hm
     refine As (Q' := fun e fr' h' => (∃ x19, e = .normal ∧ x19 = o4 ∧ Has fr' 70 [(1, .str p1), (2, AG rp2 p2.length), (7, .ptr (some (h.size, 0))), (9, .ptr (some (h2.size, 0))), (12, vs AS p0), (13, Ai (p0.length : Int)), (14, Ai x4), (56, .bool x19)] ∧ HH g h' [.obj h2.size (.cells none 2 (AS x11)), .AO r1 5 (AO eY x1), .obj h.size (.cells none 2 [AG r1 x1.length, Ai x2, Ai x3]), .AO rp2 100 (AO CB p2)] F) ∨ False) ?_ ?_
     ·replace hm := ho
      clear ho
      refine AD 2 (AM 2 [(56, .bool (x11.Kind == 5))] H fun fr H => AV 56 H hm (fun hb hm H => ?_) fun hb hm H => ?_)
      ·exact By (.inl ⟨_, rfl, Ah hm, H.ls, A⟩)
      refine Bd 2 (BG 2 [(1, .str p1), (2, AG rp2 p2.length), (7, .ptr (some (h.size, 0))), (9, .ptr (some (h2.size, 0))), (12, vs AS p0), (13, Ai (p0.length : Int)), (14, Ai x4), (56, .bool (x11.Kind == 6))] H fun fr H => at_nil ?_)
      exact .inl ⟨_, rfl, Ah hm, H.ls, A⟩
     clear ho
     clear A
     intro e fr h10 hQ
     rcases hQ with ⟨x19, rfl, rfl, H, A⟩ | hF
     ·show AW _ _ _ _ _ _ _
      refine AV 56 H hm (fun hb hm H => ?_) fun hb hm H => ?_
      ·refine Bd 6 (Ad 2 [(59, .ptr (some (h.size, 0)))] 61 0 0 A H fun fr t H => ?_)
       obtain ⟨h11, hx, A⟩ := A.s2 2 [Ai x11.Kind] [_, _, _]
       refine C1 2 [] hx H fun fr t H => ?_
       refine at_nil ?_
       replace A := A.k3 1 2 3
       exact .inl ⟨_, _, _, rfl, Ah hm, _, H.ls, A⟩
      refine By ?_
      replace A := A.k3 1 2 3
      exact .inl ⟨_, _, _, rfl, Ah hm, _, H.ls, A⟩
     exact hF.elim
    exact hF.elim
   clear ho
   clear A
   intro e fr h12 hQ
   rcases hQ with ⟨x8, x9, x10, rfl, rfl, r3, H, A⟩ | hF
   ·show AW _ _ _ _ _ _ _
    refine Bd 2 (BG 2 [(1, .str p1), (2, AG rp2 p2.length), (7, .ptr (some (h.size, 0))), (12, vs AS p0), (13, Ai (p0.length : Int)), (14, Ai (IntKind.i64.wrap (x4 + 1)))] H fun fr H => at_nil ?_)
    exact nx hm ⟨_, _, _, _, rfl, _, H.ls, A⟩
   exact hF.elim
  refine BO (i := 0) (by kernel_rfl) ?_
  exact nr hm fun e => .inl ⟨_, _, _, rfl, e, _, H.ls, A⟩
 clear ho
 clear A
 intro e fr h13 hQ
 rcases hQ with ⟨x5, x6, x7, rfl, rfl, r2, H, A⟩ | hF
 ·show AW _ _ _ _ _ _ _
  refine AD 6 (Ad 3 [] 68 1 0 A H fun fr t H => ?_)
  refine Ax 69 (.str x5) h13 H (fun fr => .of (Ou (xs := x5) A 0 rfl (by kernel_rfl))) fun fr t H => ?_
  refine AM 1 [(6, .str x5)] H fun fr H => Ag ?_
  obtain rfl := Ah hm
  refine ⟨.inl rfl, .str x5, rH H, ?_⟩
  replace A := A.k1 2
  exact ⟨rfl, A⟩
 exact hF.elim
def Dx (p0 : CW) (p1 : List UInt8) (p2 : Int) (p3 : Int) : Option ((List UInt8)) :=
 ((GA p0.J0).bind fun x1 => Af (decide (x1 > 0)) (none) (some ()) : Option ((Unit))).bind fun _ => (EN p0.J0 p1 ([(⟨p2, p3, true⟩ : B3)] : List B3)).bind fun x2 => some x2
theorem KG {p0 p1 p2 p3 q0} (hm : Dx p0 p1 p2 p3 = some q0) (A : HH g h [] F) (hc : BZ (cfg.still 17) av = [.Aq (AR p0), .str p1, Ai p2, Ai p3] := by kernel_rfl) : ∃ v h', Bg cfg g h 17 av v h' ∧ v = .str q0 ∧ HH g h' [] F := by
 refine E5 38 [.tmp 8] hc ?_
 clear hc
 unfold Dx at hm
 refine bg 38 [(0, .Aq (AR p0)), (1, .str p1), (2, Ai p2), (3, Ai p3)] fun fr H => ?_
 refine AD 1 (Bw 1 [] 5 H fun fr H => AE 3 [(12, .agg [Ai p2, Ai p3, .bool true])] H fun fr H => ?_)
 obtain ⟨h1, e1, A⟩ := A.pL 100 [Ai p2, Ai p3, .bool true]
 refine Bo 13 (AG (some h.size) (([(⟨p2, p3, true⟩ : B3)] : List B3).length)) e1 H fun fr t H => ?_
 refine AM 1 [(9, AG (some h.size) (([(⟨p2, p3, true⟩ : B3)] : List B3).length))] H fun fr H => AQ ?_
 obtain ⟨o1, ho, hm⟩ := bind_some hm
 refine As (Q' := fun e fr' h' => (e = .normal ∧ () = o1 ∧ Has fr' 38 [(0, .Aq (AR p0)), (1, .str p1), (9, AG (some h.size) (([(⟨p2, p3, true⟩ : B3)] : List B3).length))] ∧ HH g h' [.AO (some h.size) 100 ([Ai p2, Ai p3, .bool true])] F) ∨ False) ?_ ?_
 ·replace hm := ho
  clear ho
  refine AD 6 (BI 3 [] 17 (vs AS p0.J0) h1 H (fun fr => .of (FK (by kernel_rfl))) fun fr t H => ?_)
  obtain ⟨x1, hx, hm⟩ := bind_some hm
  obtain ⟨v1, h2, hr, rfl, A1⟩ := MD (av := [vs AS p0.J0]) hx (A.cut 0)
  replace A : HH g h2 [.AO (some h.size) 100 ([Ai p2, Ai p3, .bool true])] F := A.Ex (n := 0) A1
  refine Be 18 hr H fun fr t H => ?_
  refine AM 1 [(19, .bool (decide (x1 > 0)))] H fun fr H => AV 19 H hm (fun hb hm H => ?_) fun hb hm H => ?_
  ·refine Bd 12 (BI 3 [] 24 (.agg (Aa p0.t_)) h2 H (fun fr => .of (FK (by kernel_rfl))) fun fr t H => ?_)
   cases hm
  exact By (.inl ⟨rfl, Ah hm, H.ls, A⟩)
 clear ho
 clear A
 intro e fr h3 hQ
 rcases hQ with ⟨rfl, rfl, H, A⟩ | hF
 ·show AW _ _ _ _ _ _ _
  refine AD 8 (BI 3 [] 34 (vs AS p0.J0) h3 H (fun fr => .of (FK (by kernel_rfl))) fun fr t H => ?_)
  replace A : HH g h3 [.AO (some h.size) 100 (AO CB ([(⟨p2, p3, true⟩ : B3)] : List B3))] F := A
  obtain ⟨x2, hx, hm⟩ := bind_some hm
  obtain ⟨v1, h4, hr, rfl, A1⟩ := Ka (av := [vs AS p0.J0, .str p1, AG (some h.size) (([(⟨p2, p3, true⟩ : B3)] : List B3).length)]) hx (A.cut 1)
  replace A : HH g h4 [.AO (some h.size) 100 (AO CB ([(⟨p2, p3, true⟩ : B3)] : List B3))] F := A.Ex (n := 1) A1
  refine Ap 2 [] 37 hr H fun fr t H => ?_
  refine AM 1 [(8, .str x2)] H fun fr H => Ag ?_
  obtain rfl := Ah hm
  refine ⟨.inl rfl, .str x2, rH H, ?_⟩
  replace A := A.d0
  exact ⟨rfl, A⟩
 exact hF.elim
def D9 (p0 : CW) (p1 : List UInt8) (s : (List UInt8) × Int × Int × Int × Int) : Option (((List UInt8) × Int × Int × Int × Int) ⊕ (((List UInt8) × Int))) :=
 match s with
 | (x1, x2, x3, x4, x5) => (D5 p0.d_ p1 x5).bind fun (x8, x9, x10) => Af (!x10) (some (.inr (x1, x2))) (Af ((x8 == x9) && (x8 == x3)) (Af (decide ((IntKind.i64.wrap (x8 + 1)) > (p1.length : Int))) (some (.inr (x1, x2))) (some (.inl (x1, x2, x3, x4, IntKind.i64.wrap (x8 + 1))))) ((Ei p0 (IntKind.i64.wrap (x4 + 1))).bind fun x11 => Af x11 ((IB p1 (some x2) (some x8)).bind fun x12 => Cm (KI 1 (x1.length + x12.length)) <| (Dx p0 p1 x8 x9).bind fun x13 => Cm (KI 1 ((x1 ++ x12).length + x13.length)) <| Af (!p0.x_.Global) (some (.inr (((x1 ++ x12) ++ x13), x9))) (some (.inl (((x1 ++ x12) ++ x13), x9, x9, IntKind.i64.wrap (x4 + 1), x9)))) (some (.inl (x1, x2, x9, IntKind.i64.wrap (x4 + 1), x9)))))
def Bp (p0 : CW) (p1 : List UInt8) : Option ((List UInt8)) :=
 (loop (D9 p0 p1) (([] : List UInt8), (0 : Int), (-1 : Int), (0 : Int), (0 : Int))).bind fun (x6, x7) => (IB p1 (some x7) none).bind fun x14 => Cm (KI 1 (x6.length + x14.length)) <| some (x6 ++ x14)
theorem DD {p0 p1 q0} (hm : Bp p0 p1 = some q0) (A : HH g h [] F) (hc : BZ (cfg.still 6) av = [.Aq (AR p0), .str p1] := by kernel_rfl) : ∃ v h', Bg cfg g h 6 av v h' ∧ v = .str q0 ∧ HH g h' [] F := by
 refine E5 73 [.tmp 4] hc ?_
 clear hc
 unfold Bp at hm
 refine bg 73 [(0, .Aq (AR p0)), (1, .str p1)] fun fr H => ?_
 refine AD 1 (AM 1 [] H fun fr H => NK (by kernel_rfl) ?_)
 refine AD 1 (Bw 1 [(5, .slice none 0)] 3 H fun fr H => Bw 3 [(6, Ai 0), (7, Ai (-1)), (8, Ai 0)] 1 H fun fr H => AM 1 [(9, Ai 0)] H fun fr H => AQ (Ny (by kernel_rfl) ?_))
 show AW _ _ _ _ _ _ _
 refine AQ (Ac (id := 0) (by kernel_rfl) ?_)
 replace A : HH g h [.AO none 5 (AO eY ([] : List UInt8))] F := A.IY 5
 obtain ⟨o1, ho, hm⟩ := bind_some hm
 refine As (Q' := fun e fr' h' => (∃ x6 x7, e = .exit 0 ∧ (x6, x7) = o1 ∧ ∃ r2, Has fr' 73 [(1, .str p1), (5, AG r2 x6.length), (6, Ai x7)] ∧ HH g h' [.AO r2 5 (AO eY x6)] F) ∨ False) ?_ ?_
 ·refine B2 (by kernel_rfl) (fun (s : (List UInt8) × Int × Int × Int × Int) fr' h' => ∃ x1 x2 x3 x4 x5, (x1, x2, x3, x4, x5) = s ∧ ∃ r1, Has fr' 73 [(0, .Aq (AR p0)), (1, .str p1), (5, AG r1 x1.length), (6, Ai x2), (7, Ai x3), (8, Ai x4), (9, Ai x5)] ∧ HH g h' [.AO r1 5 (AO eY x1)] F) ho ⟨_, _, _, _, _, rfl, none, H.ls, A⟩ ?_
  clear ho hm H A
  intro s q fr h1 hI hm
  obtain ⟨x1, x2, x3, x4, x5, rfl, r1, H, A⟩ := hI
  unfold D9 at hm
  refine Ac (id := 1) (by kernel_rfl) ?_
  refine AD 14 (BI 3 [] 17 (.Aq (Ej 256 (AB.int .u8) p0.d_.Az ++ [Ai p0.d_.Al, vs (eI .i32) p0.d_.Ba, vs eB p0.d_.BX, vs eB p0.d_.BV, .int .i32 p0.d_.Aj, .int .i32 p0.d_.BN, .bool p0.d_.BE])) h1 H (fun fr => .of (FK (by kernel_rfl))) fun fr t H => ?_)
  obtain ⟨⟨x8, x9, x10⟩, hx, hm⟩ := bind_some hm
  obtain ⟨v1, h2, hr, rfl, A1⟩ := J5 (av := [.Aq (Ej 256 (AB.int .u8) p0.d_.Az ++ [Ai p0.d_.Al, vs (eI .i32) p0.d_.Ba, vs eB p0.d_.BX, vs eB p0.d_.BV, .int .i32 p0.d_.Aj, .int .i32 p0.d_.BN, .bool p0.d_.BE]), .str p1, Ai x5]) hx (A.cut 0)
  replace A := A.Ea A1
  refine Ap 2 [] 20 hr H fun fr t H => ?_
  refine AM 7 [(10, Ai x8), (11, Ai x9), (12, .bool x10)] H fun fr H => AQ (AD 2 (AM 2 [(25, .bool (!x10))] H fun fr H => AV 25 H hm (fun hb hm H => ?_) fun hb hm H => ?_))
  ·refine BO (i := 0) (by kernel_rfl) ?_
   exact nr hm fun e => .inl ⟨_, _, rfl, e, _, H.ls, A⟩
  refine CE id (AQ (AD 8 (AE 4 [(29, .bool (x8 == x9))] H fun fr H => BD 4 (fun fr' h' => h2 = h' ∧ Has fr' 73 [(0, .Aq (AR p0)), (1, .str p1), (5, AG r1 x1.length), (6, Ai x2), (7, Ai x3), (8, Ai x4), (10, Ai x8), (11, Ai x9), (33, .bool ((x8 == x9) && (x8 == x3)))]) ?_ ?_)))
  ·cases hb : (x8 == x9 : Bool) with
   | true =>
    replace H := H.kn 29 hb
    exact AE 4 [(33, .bool (x8 == x3))] H fun fr H => Am H hb
   | false =>
    replace H := H.kn 29 hb
    exact AE 4 [(33, .bool false)] H fun fr H => Am H hb
  intro t fr h' hK
  obtain ⟨e, H⟩ := hK
  subst e
  refine BK id (AV 33 H hm (fun hb hm H => ?_) fun hb hm H => ?_)
  ·refine AD 3 (AM 3 [(9, Ai (IntKind.i64.wrap (x8 + 1)))] H fun fr H => AQ (AD 4 (AM 4 [(39, .bool (decide ((IntKind.i64.wrap (x8 + 1)) > (p1.length : Int))))] H fun fr H => AV 39 H hm (fun hb hm H => ?_) fun hb hm H => ?_)))
   ·refine BO (i := 0) (by kernel_rfl) ?_
    exact nr hm fun e => .inl ⟨_, _, rfl, e, _, H.ls, A⟩
   refine CE id (BO (i := 1) (by kernel_rfl) ?_)
   exact nx hm ⟨_, _, _, _, _, rfl, _, H.ls, A⟩
  refine Ca 3 id (BG 3 [(0, .Aq (AR p0)), (1, .str p1), (5, AG r1 x1.length), (6, Ai x2), (8, Ai (IntKind.i64.wrap (x4 + 1))), (10, Ai x8), (11, Ai x9)] H fun fr H => CG 4 id (Bw 4 [(7, Ai x9), (9, Ai x9)] 3 H fun fr H => ?_))
  obtain ⟨x11, hx, hm⟩ := bind_some hm
  obtain ⟨v1, h3, hr, rfl, A1⟩ := Ji (av := [.Aq (AR p0), Ai (IntKind.i64.wrap (x4 + 1))]) hx (A.cut 0)
  replace A := A.Ea A1
  refine Ap 2 [] 46 hr H fun fr t H => ?_
  refine BK id (AV 46 H hm (fun hb hm H => ?_) fun hb hm H => ?_)
  ·refine AD 7 ?_
   obtain ⟨x12, hx, hm⟩ := bind_some hm
   refine BI 4 [(47, AG r1 x1.length)] 51 (.str x12) h3 H (fun fr => .of (Gp (k := .i64) (k' := .i64) (lo := (some x2)) (hi := (some x8)) (by kernel_rfl) hx)) fun fr t H => ?_
   obtain ⟨hb, hm⟩ := BQ hm
   obtain ⟨r3, h4, hx, A1⟩ := HH.Hd J1 (by decide) A 0 (xs := x1) (ys := x12) rfl (Rb _ x12) (J1.BZ _) rfl hb
   replace A : HH g h4 [.AO r3 5 (AO eY (x1 ++ x12))] F := A1
   refine Ax 52 _ _ H (fun fr => .of (Er (s := Cf r1 x1.length) (by kernel_rfl) hx)) fun fr t H => ?_
   refine BG 1 [(0, .Aq (AR p0)), (1, .str p1), (5, AG r3 ((x1 ++ x12).length)), (7, Ai x9), (8, Ai (IntKind.i64.wrap (x4 + 1))), (9, Ai x9), (10, Ai x8), (11, Ai x9)] H fun fr H => CG 8 id ?_
   obtain ⟨x13, hx, hm⟩ := bind_some hm
   obtain ⟨v1, h5, hr, rfl, A1⟩ := KG (av := [.Aq (AR p0), .str p1, Ai x8, Ai x9]) hx (A.cut 0)
   replace A := A.Ea A1
   refine Ap 5 [(53, AG r3 ((x1 ++ x12).length))] 58 hr H fun fr t H => ?_
   obtain ⟨hb, hm⟩ := BQ hm
   obtain ⟨r4, h6, hx, A1⟩ := HH.Hd J1 (by decide) A 0 (xs := (x1 ++ x12)) (ys := x13) rfl (Rb _ x13) (J1.BZ _) rfl hb
   replace A : HH g h6 [.AO r4 5 (AO eY ((x1 ++ x12) ++ x13))] F := A1
   refine Ax 59 _ _ H (fun fr => .of (Er (s := Cf r3 ((x1 ++ x12).length)) (by kernel_rfl) hx)) fun fr t H => ?_
   refine BG 1 [(0, .Aq (AR p0)), (1, .str p1), (5, AG r4 (((x1 ++ x12) ++ x13).length)), (7, Ai x9), (8, Ai (IntKind.i64.wrap (x4 + 1))), (9, Ai x9), (11, Ai x9)] H fun fr H => CG 2 id (Bw 2 [(6, Ai x9)] 6 H fun fr H => BI 4 [] 65 (.bool p0.x_.Global) h6 H (fun fr => .of (FK (by kernel_rfl))) fun fr t H => ?_)
   refine AM 1 [(66, .bool (!p0.x_.Global))] H fun fr H => AV 66 H hm (fun hb hm H => ?_) fun hb hm H => ?_
   ·refine BO (i := 0) (by kernel_rfl) ?_
    exact nr hm fun e => .inl ⟨_, _, rfl, e, _, H.ls, A⟩
   exact By (nx hm ⟨_, _, _, _, _, rfl, _, H.ls, A⟩)
  exact By (nx hm ⟨_, _, _, _, _, rfl, _, H.ls, A⟩)
 clear ho
 clear A
 intro e fr h7 hQ
 rcases hQ with ⟨x6, x7, rfl, rfl, r2, H, A⟩ | hF
 ·show AW _ _ _ _ _ _ _
  refine AD 7 ?_
  obtain ⟨x14, hx, hm⟩ := bind_some hm
  refine BI 3 [(67, AG r2 x6.length)] 70 (.str x14) h7 H (fun fr => .of (Gp (k := .i64) (k' := .i64) (lo := (some x7)) (hi := none) (by kernel_rfl) hx)) fun fr t H => ?_
  obtain ⟨hb, hm⟩ := BQ hm
  obtain ⟨r5, h8, hx, A1⟩ := HH.Hd J1 (by decide) A 0 (xs := x6) (ys := x14) rfl (Rb _ x14) (J1.BZ _) rfl hb
  replace A : HH g h8 [.AO r5 5 (AO eY (x6 ++ x14))] F := A1
  refine Ax 71 _ _ H (fun fr => .of (Er (s := Cf r2 x6.length) (by kernel_rfl) hx)) fun fr t H => ?_
  refine Ax 72 (.str (x6 ++ x14)) h8 H (fun fr => .of (Ou (xs := (x6 ++ x14)) A 0 rfl (by kernel_rfl))) fun fr t H => ?_
  refine AM 1 [(4, .str (x6 ++ x14))] H fun fr H => Ag ?_
  obtain rfl := Ah hm
  refine ⟨.inl rfl, .str (x6 ++ x14), rH H, ?_⟩
  replace A := A.d0
  exact ⟨rfl, A⟩
 exact hF.elim
def EW (p0 : Bu) (p1 : List UInt8) : Option (Bool) :=
 (D5 p0 p1 (0 : Int)).bind fun (x1, x2, x3) => some x3
theorem Kd {p0 p1 q0} (hm : EW p0 p1 = some q0) (A : HH g h [] F) (hc : BZ (cfg.still 9) av = [.Aq (Ej 256 (AB.int .u8) p0.Az ++ [Ai p0.Al, vs (eI .i32) p0.Ba, vs eB p0.BX, vs eB p0.BV, .int .i32 p0.Aj, .int .i32 p0.BN, .bool p0.BE]), .str p1] := by kernel_rfl) : ∃ v h', Bg cfg g h 9 av v h' ∧ v = .bool q0 ∧ HH g h' [] F := by
 refine E5 16 [.tmp 4] hc ?_
 clear hc
 unfold EW at hm
 refine bg 16 [(0, .Aq (Ej 256 (AB.int .u8) p0.Az ++ [Ai p0.Al, vs (eI .i32) p0.Ba, vs eB p0.BX, vs eB p0.BV, .int .i32 p0.Aj, .int .i32 p0.BN, .bool p0.BE])), (1, .str p1)] fun fr H => ?_
 refine AD 1 (Bw 1 [] 10 H fun fr H => ?_)
 obtain ⟨⟨x1, x2, x3⟩, hx, hm⟩ := bind_some hm
 obtain ⟨v1, h1, hr, rfl, A1⟩ := J5 (av := [.Aq (Ej 256 (AB.int .u8) p0.Az ++ [Ai p0.Al, vs (eI .i32) p0.Ba, vs eB p0.BX, vs eB p0.BV, .int .i32 p0.Aj, .int .i32 p0.BN, .bool p0.BE]), .str p1, Ai 0]) hx (A.cut 0)
 replace A := A.Ea A1
 refine Ap 2 [] 11 hr H fun fr t H => ?_
 refine Bw 7 [(7, .bool x3)] 2 H fun fr H => AM 2 [(4, .bool x3)] H fun fr H => Ag ?_
 obtain rfl := Ah hm
 exact ⟨.inl rfl, _, rH H, rfl, A⟩
end
end Go.Av.L
