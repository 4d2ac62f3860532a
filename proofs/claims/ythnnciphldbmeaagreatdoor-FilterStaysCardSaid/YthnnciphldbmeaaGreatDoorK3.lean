/-
 Models of functions, and that the abstract run tells them. Written by lift2.py.
-/
import Derived.Test.YthnnciphldbmeaaGreatDoorKCfg
import Derived.Test.YthnnciphldbmeaaGreatDoorK0
import Derived.Test.YthnnciphldbmeaaGreatDoorK1
import Derived.Test.YthnnciphldbmeaaGreatDoorK2
namespace Go.Av.L
open Go.Av Go.Lib
set_option maxRecDepth 10000
set_option maxHeartbeats 4000000
set_option linter.unusedVariables false
set_option linter.unusedSimpArgs false
variable {g : Gd} {h : AM} {F : List Ck} {av : List AD}
noncomputable section
def JB (p0 : Int) (p1 : Int) : Option ((Option BS) × Int) :=
 Af ((((decide (p0 < 0)) || (decide (p0 > 9007199254740991))) || (decide (p1 < 1))) || (decide (p1 > 257))) (some (none, (6 : Int))) (some (some (⟨p0, p1, J6⟩ : BS), (0 : Int)))
theorem Mc {p0 p1 o0 q1} (hm : JB p0 p1 = some (o0, q1)) (A : HH g h [] F) (hc : BH (cfg.still 33) av = [Ai p0, Ai p1] := by kernel_rfl) : ∃ v h', BN cfg g h 33 av v h' ∧ ((∃ (bq00 : Nat) (q00 : BS), o0 = some q00 ∧ v = .tuple [.ptr (some (bq00, 0)), Ai q1] ∧ HH g h' [.obj bq00 (.cells none 2 ([Ai q00.n_, Ai q00.An] ++ (CW 257 (AD.int .i64) q00.Aw ++ [])))] F) ∨ (o0 = none ∧ v = .tuple [.ptr none, Ai q1] ∧ HH g h' [] F)) := by
 refine Dr 24 [.tmp 4, .tmp 5] hc ?_
 clear hc
 unfold JB at hm
 refine bg 24 [(0, Ai p0), (1, Ai p1)] fun fr H => ?_
 refine AH 2 (AP 2 [] H fun fr H => AV (AH 14 (AG 3 [(8, .bool (decide (p0 < 0)))] H fun fr H => Aq 3 (fun fr' h' => h = h' ∧ Has fr' 24 [(0, Ai p0), (1, Ai p1), (11, .bool ((decide (p0 < 0)) || (decide (p0 > 9007199254740991))))]) ?_ ?_)))
 ·cases hb : (decide (p0 < 0) : Bool) with
  | true =>
   replace H := H.kn 8 hb
   exact AG 3 [(11, .bool true)] H fun fr H => Ap H hb
  | false =>
   replace H := H.kn 8 hb
   exact AG 3 [(11, .bool (decide (p0 > 9007199254740991)))] H fun fr H => Ap H hb
 intro t fr h' hK
 obtain ⟨e, H⟩ := hK
 subst e
 refine AG 1 [(12, .bool ((decide (p0 < 0)) || (decide (p0 > 9007199254740991))))] H fun fr H => Aq 3 (fun fr' h' => h = h' ∧ Has fr' 24 [(0, Ai p0), (1, Ai p1), (15, .bool (((decide (p0 < 0)) || (decide (p0 > 9007199254740991))) || (decide (p1 < 1))))]) ?_ ?_
 ·cases hb : ((decide (p0 < 0)) || (decide (p0 > 9007199254740991)) : Bool) with
  | true =>
   replace H := H.kn 12 hb
   exact AG 3 [(15, .bool true)] H fun fr H => Ap H hb
  | false =>
   replace H := H.kn 12 hb
   exact AG 3 [(15, .bool (decide (p1 < 1)))] H fun fr H => Ap H hb
 intro t fr h' hK
 obtain ⟨e, H⟩ := hK
 subst e
 refine AG 1 [(16, .bool (((decide (p0 < 0)) || (decide (p0 > 9007199254740991))) || (decide (p1 < 1))))] H fun fr H => Aq 3 (fun fr' h' => h = h' ∧ Has fr' 24 [(0, Ai p0), (1, Ai p1), (19, .bool ((((decide (p0 < 0)) || (decide (p0 > 9007199254740991))) || (decide (p1 < 1))) || (decide (p1 > 257))))]) ?_ ?_
 ·cases hb : (((decide (p0 < 0)) || (decide (p0 > 9007199254740991))) || (decide (p1 < 1)) : Bool) with
  | true =>
   replace H := H.kn 16 hb
   exact AG 3 [(19, .bool true)] H fun fr H => Ap H hb
  | false =>
   replace H := H.kn 16 hb
   exact AG 3 [(19, .bool (decide (p1 > 257)))] H fun fr H => Ap H hb
 intro t fr h' hK
 obtain ⟨e, H⟩ := hK
 subst e
 refine BF id (Ak 19 H hm (fun hb hm H => ?_) fun hb hm H => ?_)
 ·refine AH 2 (AP 2 [(4, .ptr none), (5, Ai 6)] H fun fr H => AY ?_)
  obtain ⟨rfl, rfl⟩ := C9 hm
  refine ⟨.inl rfl, .tuple [.ptr none, Ai 6], rH H, ?_⟩
  exact .inr ⟨rfl, rfl, A⟩
 refine Cc 6 id ?_
 obtain ⟨h1, e1, A⟩ := A.pu (.cells none 2 ([Ai p0, Ai p1] ++ (CW 257 (AD.int .i64) J6 ++ [])))
 refine JI 3 [] 23 (.ptr (some (h.size, 0))) e1 H fun fr t H => ?_
 refine AP 2 [(4, .ptr (some (h.size, 0))), (5, Ai 0)] H fun fr H => AY ?_
 obtain ⟨rfl, rfl⟩ := C9 hm
 refine ⟨.inl rfl, .tuple [.ptr (some (h.size, 0)), Ai 0], rH H, ?_⟩
 exact .inl ⟨h.size, (⟨p0, p1, J6⟩ : BS), rfl, rfl, A⟩
def HD (p0 : Bq) : Option ((Option BO) × Int) :=
 (Iu p0).bind fun x1 => Af (!x1) (some (none, (6 : Int))) (Af ((decide ((IntKind.i64.wrap ((p0.Ah.length : Int) + (p0.Aj.length : Int))) > 256)) || (decide ((p0.Bj.length : Int) > 256))) (some (none, (8 : Int))) ((IC p0).bind fun x2 => (Fy p0.Ah p0.BU).bind fun (x3, x4) => Af (x4 != 0) (some (none, x4)) ((Fy p0.Aj p0.BU).bind fun (x5, x6) => Af (x6 != 0) (some (none, x6)) ((K3 x2.Bj p0.BU p0.Name).bind fun (w8, x8, x9) => (match w8 with | some x7w7 => Af (x9 != 0) (some (none, x9)) ((JB p0.Ge (mx (p0.Ah.length : Int) (1 : Int))).bind fun (w12, x11) => (match w12 with | some x10w11 => some (some (⟨x2, x3, x5, x7w7, x10w11⟩ : BO), x11) | none => none)) | none => Af (x9 != 0) (some (none, x9)) ((JB p0.Ge (mx (p0.Ah.length : Int) (1 : Int))).bind fun (w15, x13) => (match w15 with | some x12w14 => none | none => none)))))))
theorem Lz {p0 o0 q1} (hm : HD p0 = some (o0, q1)) (A : HH g h [] F) (hc : BH (cfg.still 8) av = [.agg (AO p0)] := by kernel_rfl) : ∃ v h', BN cfg g h 8 av v h' ∧ ((∃ (bq00 : Nat) (rq00_14 : Option Nat) (rq00_15 : Option Nat) (bq00_16 : Nat) (rq00_16_0 : Option Nat) (bq00_17 : Nat) (q00 : BO), o0 = some q00 ∧ v = .tuple [.ptr (some (bq00, 0)), Ai q1] ∧ HH g h' [.obj bq00 (.cells none 2 [vs AE q00.c_.Ah, vs AE q00.c_.Aj, vs AI q00.c_.Bj, .bool q00.c_.G1, .bool q00.c_.BE, Ai q00.c_.Bc, .bool q00.c_.B4, Ai q00.c_.Ay.Cf, Ai q00.c_.Ay.Bb, Ai q00.c_.Ge, Ai q00.c_.Bz, Ai q00.c_.Name, Ai q00.c_.Head, Ai q00.c_.BU, AF rq00_14 q00.AR.length, AF rq00_15 q00.AU.length, .ptr (some (bq00_16, 0)), .ptr (some (bq00_17, 0))]), .AL rq00_14 136 (AL (eP AB) q00.AR), .AL rq00_15 136 (AL (eP AB) q00.AU), .obj bq00_16 (.cells none 2 [AF rq00_16_0 q00.AX.l_.length, Ai q00.AX.BM]), .AL rq00_16_0 142 (AL (eP AJ) q00.AX.l_), .obj bq00_17 (.cells none 2 ([Ai q00.Ae.n_, Ai q00.Ae.An] ++ (CW 257 (AD.int .i64) q00.Ae.Aw ++ [])))] F) ∨ (o0 = none ∧ v = .tuple [.ptr none, Ai q1] ∧ HH g h' [] F)) := by
 refine Dr 92 [.tmp 2, .tmp 3] hc ?_
 clear hc
 unfold HD at hm
 refine bg 92 [(0, .agg (AO p0))] fun fr H => ?_
 refine AH 3 ?_
 obtain ⟨h1, e1, A⟩ := A.pu (.cells none 2 (AO p0))
 refine A7 1 (.ptr (some (h.size, 0))) e1 H fun fr t H => ?_
 refine AP 2 [] H fun fr H => AV (Aa (id := 0) (by kernel_rfl) ?_)
 refine AH 4 (As 7 _ _ H (fun fr => .of (B5 (by kernel_rfl) (A.GQ 0 rfl (o := 0) (n := 14) ⟨Nat.le_of_ble_eq_true rfl, rfl⟩))) fun fr t H => ?_)
 obtain ⟨x1, hx, hm⟩ := bind_some hm
 obtain ⟨v1, h2, hr, rfl, A1⟩ := N5 (av := [.agg (AO p0)]) hx (A.cut 0)
 replace A : HH g h2 [.obj h.size (.cells none 2 (AO p0))] F := A.CY (n := 0) A1
 refine A8 8 hr H fun fr t H => ?_
 refine AP 2 [(6, .bool (!x1))] H fun fr H => Ak 6 H hm (fun hb hm H => ?_) fun hb hm H => ?_
 ·refine AH 2 (AP 2 [(2, .ptr none), (3, Ai 6)] H fun fr H => AY ?_)
  obtain ⟨rfl, rfl⟩ := C9 hm
  refine ⟨.inl rfl, .tuple [.ptr none, Ai 6], rH H, ?_⟩
  replace A := A.d0
  exact .inr ⟨rfl, rfl, A⟩
 refine AH 15 (AZ 1 [] 12 0 0 A H fun fr t H => ?_)
 refine AZ 2 [(13, Ai (p0.Ah.length : Int))] 15 0 1 A H fun fr t H => ?_
 refine AG 4 [(19, .bool (decide ((IntKind.i64.wrap ((p0.Ah.length : Int) + (p0.Aj.length : Int))) > 256)))] H fun fr H => Aq 5 (fun fr' h' => h2 = h' ∧ Has fr' 92 [(1, .ptr (some (h.size, 0))), (24, .bool ((decide ((IntKind.i64.wrap ((p0.Ah.length : Int) + (p0.Aj.length : Int))) > 256)) || (decide ((p0.Bj.length : Int) > 256))))]) ?_ ?_
 ·cases hb : (decide ((IntKind.i64.wrap ((p0.Ah.length : Int) + (p0.Aj.length : Int))) > 256) : Bool) with
  | true =>
   replace H := H.kn 19 hb
   exact AG 5 [(24, .bool true)] H fun fr H => Ap H hb
  | false =>
   replace H := H.kn 19 hb
   refine AZ 1 [] 21 0 2 A H fun fr t H => ?_
   exact AG 3 [(24, .bool (decide ((p0.Bj.length : Int) > 256)))] H fun fr H => Ap H hb
 intro t fr h' hK
 obtain ⟨e, H⟩ := hK
 subst e
 refine AP 1 [(10, .bool ((decide ((IntKind.i64.wrap ((p0.Ah.length : Int) + (p0.Aj.length : Int))) > 256)) || (decide ((p0.Bj.length : Int) > 256))))] H fun fr H => Ak 10 H hm (fun hb hm H => ?_) fun hb hm H => ?_
 ·refine AH 2 (AP 2 [(2, .ptr none), (3, Ai 8)] H fun fr H => AY ?_)
  obtain ⟨rfl, rfl⟩ := C9 hm
  refine ⟨.inl rfl, .tuple [.ptr none, Ai 8], rH H, ?_⟩
  replace A := A.d0
  exact .inr ⟨rfl, rfl, A⟩
 refine Cc 5 id (As 25 _ _ H (fun fr => .of (B5 (by kernel_rfl) (A.GQ 0 rfl (o := 0) (n := 14) ⟨Nat.le_of_ble_eq_true rfl, rfl⟩))) fun fr t H => ?_)
 obtain ⟨x2, hx, hm⟩ := bind_some hm
 obtain ⟨v1, h3, hr, rfl, A1⟩ := NM (av := [.agg (AO p0)]) hx (A.cut 0)
 replace A := A.E8 A1
 refine A8 26 hr H fun fr t H => ?_
 obtain ⟨h4, e2, A⟩ := A.pu (.cells none 2 [vs AE x2.Ah, vs AE x2.Aj, vs AI x2.Bj, .bool x2.G1, .bool x2.BE, Ai x2.Bc, .bool x2.B4, Ai x2.Ay.Cf, Ai x2.Ay.Bb, Ai x2.Ge, Ai x2.Bz, Ai x2.Name, Ai x2.Head, Ai x2.BU, .slice none 0, .slice none 0, .ptr none, .ptr none])
 refine JI 1 [] 28 (.ptr (some (h3.size, 0))) e2 H fun fr t H => ?_
 refine Bn 1 [(4, .ptr (some (h3.size, 0)))] 1 H fun fr H => AP 1 [] H fun fr H => AV (AH 13 (AZ 2 [(30, .ptr (some (h3.size, 0)))] 32 1 0 A H fun fr t H => ?_))
 refine AZ 1 [] 34 1 13 A H fun fr t H => ?_
 obtain ⟨⟨x3, x4⟩, hx, hm⟩ := bind_some hm
 obtain ⟨v1, h5, hr, rqw3, rfl, A1⟩ := Iv (av := [vs AE p0.Ah, Ai p0.BU]) hx (A.cut 0)
 replace A : HH g h5 [.AL rqw3 136 (AL (eP AB) x3), .obj h3.size (.cells none 2 [vs AE x2.Ah, vs AE x2.Aj, vs AI x2.Bj, .bool x2.G1, .bool x2.BE, Ai x2.Bc, .bool x2.B4, Ai x2.Ay.Cf, Ai x2.Ay.Bb, Ai x2.Ge, Ai x2.Bz, Ai x2.Name, Ai x2.Head, Ai x2.BU, .slice none 0, .slice none 0, .ptr none, .ptr none]), _] F := A.CY (n := 0) A1
 refine A8 35 hr H fun fr t H => ?_
 obtain ⟨h6, hx, A⟩ := A.s1 14 [AF rqw3 x3.length] [_, _, _, _, _, _, _, _, _, _, _, _, _, _, _, _, _, _]
 refine FH 5 [(37, Ai x4)] hx H fun fr t H => ?_
 refine Bn 1 [(5, Ai x4)] 2 H fun fr H => AP 2 [(41, .bool (x4 != 0))] H fun fr H => Ak 41 H hm (fun hb hm H => ?_) fun hb hm H => ?_
 ·refine AH 3 (AP 3 [(2, .ptr none), (3, Ai x4)] H fun fr H => AY ?_)
  obtain ⟨rfl, rfl⟩ := C9 hm
  refine ⟨.inl rfl, .tuple [.ptr none, Ai x4], rH H, ?_⟩
  replace A := A.d0
  exact .inr ⟨rfl, rfl, A⟩
 refine Br id (AV (AH 13 (AZ 2 [(44, .ptr (some (h3.size, 0)))] 46 2 1 A H fun fr t H => ?_)))
 refine AZ 1 [] 48 2 13 A H fun fr t H => ?_
 obtain ⟨⟨x5, x6⟩, hx, hm⟩ := bind_some hm
 obtain ⟨v1, h7, hr, rqw5, rfl, A1⟩ := Iv (av := [vs AE p0.Aj, Ai p0.BU]) hx (A.cut 0)
 replace A := A.XN A1
 refine A8 49 hr H fun fr t H => ?_
 obtain ⟨h8, hx, A⟩ := A.s2 15 [AF rqw5 x5.length] [_, _, _, _, _, _, _, _, _, _, _, _, _, _, _, _, _, _]
 refine FH 5 [(51, Ai x6)] hx H fun fr t H => ?_
 refine Bk 1 [(1, .ptr (some (h.size, 0))), (4, .ptr (some (h3.size, 0))), (5, Ai x6)] H fun fr H => Cb 2 id (AP 2 [(55, .bool (x6 != 0))] H fun fr H => Ak 55 H hm (fun hb hm H => ?_) fun hb hm H => ?_)
 ·refine AH 3 (AP 3 [(2, .ptr none), (3, Ai x6)] H fun fr H => AY ?_)
  obtain ⟨rfl, rfl⟩ := C9 hm
  refine ⟨.inl rfl, .tuple [.ptr none, Ai x6], rH H, ?_⟩
  replace A := A.d0
  exact .inr ⟨rfl, rfl, A⟩
 refine Br id (AV (AV (FF 13 19 ?_)))
 refine AZ 5 [(58, .ptr (some (h3.size, 0)))] 63 2 2 A H fun fr t H => ?_
 refine AZ 1 [] 65 3 13 A H fun fr t H => ?_
 refine AZ 1 [] 67 3 11 A H fun fr t H => ?_
 obtain ⟨⟨w8, x8, x9⟩, hx, hm⟩ := bind_some hm
 obtain ⟨v1, h9, hr, hc⟩ := Q5 (av := [vs AI x2.Bj, Ai p0.BU, Ai p0.Name]) hx (A.cut 0)
 rcases hc with ⟨bx7w7, rx7w7_0, x7w7, rfl, rfl, A1⟩ | ⟨rfl, rfl, A1⟩
 ·replace A := A.XX A1
  refine A8 68 hr H fun fr t H => ?_
  obtain ⟨h10, hx, A⟩ := A.s4 16 [.ptr (some (bx7w7, 0))] [_, _, _, _, _, _, _, _, _, _, _, _, _, _, _, _, _, _]
  refine FH 6 [(71, Ai x9)] hx H fun fr t H => ?_
  refine Bk 1 [(1, .ptr (some (h.size, 0))), (4, .ptr (some (h3.size, 0))), (5, Ai x9)] H fun fr H => Cb 2 id (AP 2 [(75, .bool (x9 != 0))] H fun fr H => Ak 75 H hm (fun hb hm H => ?_) fun hb hm H => ?_)
  ·refine AH 3 (AP 3 [(2, .ptr none), (3, Ai x9)] H fun fr H => AY ?_)
   obtain ⟨rfl, rfl⟩ := C9 hm
   refine ⟨.inl rfl, .tuple [.ptr none, Ai x9], rH H, ?_⟩
   replace A := A.d0
   exact .inr ⟨rfl, rfl, A⟩
  refine Cc 15 id (AZ 2 [(78, .ptr (some (h3.size, 0)))] 80 5 9 A H fun fr t H => ?_)
  refine AZ 1 [] 82 5 0 A H fun fr t H => ?_
  obtain ⟨⟨w12, x11⟩, hx, hm⟩ := bind_some hm
  obtain ⟨v1, h11, hr, hc⟩ := Mc (av := [Ai p0.Ge, Ai (mx (p0.Ah.length : Int) (1 : Int))]) hx (A.cut 0)
  rcases hc with ⟨bx10w11, x10w11, rfl, rfl, A1⟩ | ⟨rfl, rfl, A1⟩
  ·replace A := A.XN A1
   refine BD 2 [] 85 hr H fun fr t H => ?_
   obtain ⟨h12, hx, A⟩ := A.s5 17 [.ptr (some (bx10w11, 0))] [_, _, _, _, _, _, _, _, _, _, _, _, _, _, _, _, _, _]
   refine FH 5 [(87, Ai x11)] hx H fun fr t H => ?_
   refine Bk 1 [(4, .ptr (some (h3.size, 0))), (5, Ai x11)] H fun fr H => Cb 4 id (AP 4 [(2, .ptr (some (h3.size, 0))), (3, Ai x11)] H fun fr H => AY ?_)
   obtain ⟨rfl, rfl⟩ := C9 hm
   refine ⟨.inl rfl, .tuple [.ptr (some (h3.size, 0)), Ai x11], rH H, ?_⟩
   replace A := A.k6 5 4 3 1 2 0
   exact .inl ⟨h3.size, rqw3, rqw5, bx7w7, rx7w7_0, bx10w11, (⟨x2, x3, x5, x7w7, x10w11⟩ : BO), rfl, rfl, A⟩
  replace A := A.E8 A1
  refine BD 2 [] 85 hr H fun fr t H => ?_
  obtain ⟨h13, hx, A⟩ := A.s4 17 [.ptr none] [_, _, _, _, _, _, _, _, _, _, _, _, _, _, _, _, _, _]
  refine FH 5 [(87, Ai x11)] hx H fun fr t H => ?_
  refine Bk 1 [(4, .ptr (some (h3.size, 0))), (5, Ai x11)] H fun fr H => Cb 4 id (AP 4 [(2, .ptr (some (h3.size, 0))), (3, Ai x11)] H fun fr H => AY ?_)
  cases hm
 replace A := A.E8 A1
 refine A8 68 hr H fun fr t H => ?_
 obtain ⟨h14, hx, A⟩ := A.s2 16 [.ptr none] [_, _, _, _, _, _, _, _, _, _, _, _, _, _, _, _, _, _]
 refine FH 6 [(71, Ai x9)] hx H fun fr t H => ?_
 refine Bk 1 [(1, .ptr (some (h.size, 0))), (4, .ptr (some (h3.size, 0))), (5, Ai x9)] H fun fr H => Cb 2 id (AP 2 [(75, .bool (x9 != 0))] H fun fr H => Ak 75 H hm (fun hb hm H => ?_) fun hb hm H => ?_)
 ·refine AH 3 (AP 3 [(2, .ptr none), (3, Ai x9)] H fun fr H => AY ?_)
  obtain ⟨rfl, rfl⟩ := C9 hm
  refine ⟨.inl rfl, .tuple [.ptr none, Ai x9], rH H, ?_⟩
  replace A := A.d0
  exact .inr ⟨rfl, rfl, A⟩
 refine Cc 15 id (AZ 2 [(78, .ptr (some (h3.size, 0)))] 80 3 9 A H fun fr t H => ?_)
 refine AZ 1 [] 82 3 0 A H fun fr t H => ?_
 obtain ⟨⟨w15, x13⟩, hx, hm⟩ := bind_some hm
 obtain ⟨v1, h15, hr, hc⟩ := Mc (av := [Ai p0.Ge, Ai (mx (p0.Ah.length : Int) (1 : Int))]) hx (A.cut 0)
 rcases hc with ⟨bx12w14, x12w14, rfl, rfl, A1⟩ | ⟨rfl, rfl, A1⟩
 ·replace A := A.XN A1
  refine BD 2 [] 85 hr H fun fr t H => ?_
  obtain ⟨h16, hx, A⟩ := A.s3 17 [.ptr (some (bx12w14, 0))] [_, _, _, _, _, _, _, _, _, _, _, _, _, _, _, _, _, _]
  refine FH 5 [(87, Ai x13)] hx H fun fr t H => ?_
  refine Bk 1 [(4, .ptr (some (h3.size, 0))), (5, Ai x13)] H fun fr H => Cb 4 id (AP 4 [(2, .ptr (some (h3.size, 0))), (3, Ai x13)] H fun fr H => AY ?_)
  cases hm
 replace A := A.E8 A1
 refine BD 2 [] 85 hr H fun fr t H => ?_
 obtain ⟨h17, hx, A⟩ := A.s2 17 [.ptr none] [_, _, _, _, _, _, _, _, _, _, _, _, _, _, _, _, _, _]
 refine FH 5 [(87, Ai x13)] hx H fun fr t H => ?_
 refine Bk 1 [(4, .ptr (some (h3.size, 0))), (5, Ai x13)] H fun fr H => Cb 4 id (AP 4 [(2, .ptr (some (h3.size, 0))), (3, Ai x13)] H fun fr H => AY ?_)
 cases hm
def Fl (p0 : BO) (p1 : List AK) : Option (Unit) :=
 some ()
theorem J0 {p0 p1 bp0 rp0_14 rp0_15 bp0_16 rp0_16_0 bp0_17 rp1} (hm : Fl p0 p1 = some ()) (A : HH g h [.obj bp0 (.cells none 2 [vs AE p0.c_.Ah, vs AE p0.c_.Aj, vs AI p0.c_.Bj, .bool p0.c_.G1, .bool p0.c_.BE, Ai p0.c_.Bc, .bool p0.c_.B4, Ai p0.c_.Ay.Cf, Ai p0.c_.Ay.Bb, Ai p0.c_.Ge, Ai p0.c_.Bz, Ai p0.c_.Name, Ai p0.c_.Head, Ai p0.c_.BU, AF rp0_14 p0.AR.length, AF rp0_15 p0.AU.length, .ptr (some (bp0_16, 0)), .ptr (some (bp0_17, 0))]), .AL rp0_14 136 (AL (eP AB) p0.AR), .AL rp0_15 136 (AL (eP AB) p0.AU), .obj bp0_16 (.cells none 2 [AF rp0_16_0 p0.AX.l_.length, Ai p0.AX.BM]), .AL rp0_16_0 142 (AL (eP AJ) p0.AX.l_), .obj bp0_17 (.cells none 2 ([Ai p0.Ae.n_, Ai p0.Ae.An] ++ (CW 257 (AD.int .i64) p0.Ae.Aw ++ []))), .AL rp1 44 (AL AA p1)] F) (hc : BH (cfg.still 49) av = [.ptr (some (bp0, 0)), AF rp1 p1.length] := by kernel_rfl) : ∃ v h', BN cfg g h 49 av v h' ∧ ∃ (bq0_10 : Nat) (bq0_11 : Nat), v = .func (.func 89) [] [.ptr (some (bq0_10, 0)), .ptr (some (bq0_11, 0))] ∧ HH g h' [.obj bq0_10 (.cells none 2 [AF rp1 p1.length]), .obj bq0_11 (.cells none 2 [.ptr (some (bp0, 0))]), .obj bp0 (.cells none 2 [vs AE p0.c_.Ah, vs AE p0.c_.Aj, vs AI p0.c_.Bj, .bool p0.c_.G1, .bool p0.c_.BE, Ai p0.c_.Bc, .bool p0.c_.B4, Ai p0.c_.Ay.Cf, Ai p0.c_.Ay.Bb, Ai p0.c_.Ge, Ai p0.c_.Bz, Ai p0.c_.Name, Ai p0.c_.Head, Ai p0.c_.BU, AF rp0_14 p0.AR.length, AF rp0_15 p0.AU.length, .ptr (some (bp0_16, 0)), .ptr (some (bp0_17, 0))]), .AL rp0_14 136 (AL (eP AB) p0.AR), .AL rp0_15 136 (AL (eP AB) p0.AU), .obj bp0_16 (.cells none 2 [AF rp0_16_0 p0.AX.l_.length, Ai p0.AX.BM]), .AL rp0_16_0 142 (AL (eP AJ) p0.AX.l_), .obj bp0_17 (.cells none 2 ([Ai p0.Ae.n_, Ai p0.Ae.An] ++ (CW 257 (AD.int .i64) p0.Ae.Aw ++ []))), .AL rp1 44 (AL AA p1)] F := by
 refine Dr 6 [.tmp 4] hc ?_
 clear hc
 unfold Fl at hm
 refine bg 6 [(0, .ptr (some (bp0, 0))), (1, AF rp1 p1.length)] fun fr H => ?_
 refine AH 3 ?_
 obtain ⟨h1, e1, A⟩ := A.pu (.cells none 2 [.ptr (some (bp0, 0))])
 refine A7 2 (.ptr (some (h.size, 0))) e1 H fun fr t H => ?_
 obtain ⟨h2, e2, A⟩ := A.pu (.cells none 2 [AF rp1 p1.length])
 refine A7 3 (.ptr (some (h1.size, 0))) e2 H fun fr t H => ?_
 refine Bn 1 [] 2 H fun fr H => AP 2 [(4, .func (.func 89) [] [.ptr (some (h1.size, 0)), .ptr (some (h.size, 0))])] H fun fr H => AY ?_
 exact ⟨.inl rfl, _, rH H, _, _, rfl, A⟩
def Ce (p0 : List UInt8) : Option ((List UInt8)) :=
 Af ((p0 == ([] : List UInt8)) || (([47] : List UInt8) == ([] : List UInt8))) (some p0) ((DH p0 (47 : Int)).bind fun x1 => some x1)
theorem GU {p0 q0} (hm : Ce p0 = some q0) (A : HH g h [] F) (hc : BH (cfg.still 151) av = [.str p0, .str ([47] : List UInt8)] := by kernel_rfl) : ∃ v h', BN cfg g h 151 av v h' ∧ v = .str q0 ∧ HH g h' [] F := by
 refine Dr 37 [.tmp 4] hc ?_
 clear hc
 unfold Ce at hm
 refine bg 37 [(0, .str p0), (1, .str ([47] : List UInt8))] fun fr H => ?_
 refine AH 1 (AP 1 [] H fun fr H => AV (AH 6 (AG 3 [(9, .bool (p0 == ([] : List UInt8)))] H fun fr H => Aq 3 (fun fr' h' => h = h' ∧ Has fr' 37 [(0, .str p0), (1, .str ([47] : List UInt8)), (12, .bool ((p0 == ([] : List UInt8)) || (([47] : List UInt8) == ([] : List UInt8))))]) ?_ ?_)))
 ·cases hb : (p0 == ([] : List UInt8) : Bool) with
  | true =>
   replace H := H.kn 9 hb
   exact AG 3 [(12, .bool true)] H fun fr H => Ap H hb
  | false =>
   replace H := H.kn 9 hb
   exact AG 3 [(12, .bool (([47] : List UInt8) == ([] : List UInt8)))] H fun fr H => Ap H hb
 intro t fr h' hK
 obtain ⟨e, H⟩ := hK
 subst e
 refine BF id (Ak 12 H hm (fun hb hm H => ?_) fun hb hm H => ?_)
 ·refine AH 2 (AP 2 [(4, .str p0)] H fun fr H => AY ?_)
  obtain rfl := Ag hm
  exact ⟨.inl rfl, _, rH H, rfl, A⟩
 refine Br id (AV (AH 8 (AP 8 [(21, .bool true)] H fun fr H => GI (x := .tmp 21) (by kernel_rfl) H (fun fr => by kernel_rfl) ?_)))
 refine AH 5 ?_
 obtain ⟨x1, hx, hm⟩ := bind_some hm
 obtain ⟨v1, h1, hr, rfl, A1⟩ := GY (av := [.str p0, Ab 47]) hx (A.cut 0)
 replace A := A.E8 A1
 refine BD 3 [] 25 hr H fun fr t H => ?_
 refine AP 1 [(4, .str x1)] H fun fr H => AY ?_
 obtain rfl := Ag hm
 exact ⟨.inl rfl, _, rH H, rfl, A⟩
def Bg (p0 : List UInt8) (p1 : Int) (s : Int) : Option ((Int) ⊕ ((Unit) ⊕ (Int))) :=
 match s with
 | x1 => Af (decide (x1 ≥ 0)) ((P1 p0 x1).bind fun x3 => Af (x3 == p1) (some (.inr (.inr x1))) (some (.inl (IntKind.i64.wrap (x1 - 1))))) (some (.inr (.inl ())))
def C4 (p0 : List UInt8) (p1 : Int) : Option (Int) :=
 (loop (Bg p0 p1) (IntKind.i64.wrap ((p0.length : Int) - 1))).bind fun o1 => (match o1 with | .inl _ => some (-1 : Int) | .inr x2 => some x2)
theorem HV {p0 p1 q0} (hm : C4 p0 p1 = some q0) (A : HH g h [] F) (hc : BH (cfg.still 215) av = [.str p0, Ab p1] := by kernel_rfl) : ∃ v h', BN cfg g h 215 av v h' ∧ v = Ai q0 ∧ HH g h' [] F := by
 refine Dr 19 [.tmp 4] hc ?_
 clear hc
 unfold C4 at hm
 refine bg 19 [(0, .str p0), (1, Ab p1)] fun fr H => ?_
 refine AH 1 (AP 1 [] H fun fr H => AV (AH 4 (AP 4 [(5, Ai (IntKind.i64.wrap ((p0.length : Int) - 1)))] H fun fr H => Aa (id := 0) (by kernel_rfl) ?_)))
 obtain ⟨o1, ho, hm⟩ := bind_some hm
 refine BG (Q' := fun e fr' h' => (e = .exit 0 ∧ .inl () = o1 ∧ Has fr' 19 [] ∧ HH g h' [] F) ∨ (∃ x2, e = .ret ∧ .inr x2 = o1 ∧ Has fr' 19 [(4, Ai x2)] ∧ HH g h' [] F) ∨ False) ?_ ?_
 ·refine Bv (by kernel_rfl) (fun (s : Int) fr' h' => ∃ x1, x1 = s ∧ Has fr' 19 [(0, .str p0), (1, Ab p1), (5, Ai x1)] ∧ HH g h' [] F) ho ⟨_, rfl, H.ls, A⟩ ?_
  clear ho hm H A
  intro s q fr h1 hI hm
  obtain ⟨x1, rfl, H, A⟩ := hI
  unfold Bg at hm
  refine AV (AH 2 (AP 2 [(10, .bool (decide (x1 ≥ 0)))] H fun fr H => Ak 10 H hm (fun hb hm H => ?_) fun hb hm H => ?_))
  ·refine Br id (AV (Aa (id := 1) (by kernel_rfl) ?_))
   refine AH 5 ?_
   obtain ⟨x3, hx, hm⟩ := bind_some hm
   refine Ax 2 [] 15 (Ab x3) h1 H (fun fr => .of (Iy (by kernel_rfl) hx)) fun fr t H => ?_
   refine AP 2 [(17, .bool (x3 == p1))] H fun fr H => Ak 17 H hm (fun hb hm H => ?_) fun hb hm H => ?_
   ·refine AH 2 (AP 2 [(4, Ai x1)] H fun fr H => AY ?_)
    exact nr hm fun e => Or.inr (.inl ⟨_, rfl, e, H.ls, A⟩)
   refine Fg 3 id (Bk 3 [(0, .str p0), (1, Ab p1), (5, Ai (IntKind.i64.wrap (x1 - 1)))] H fun fr H => at_nil ?_)
   exact nx hm ⟨_, rfl, H.ls, A⟩
  refine Bh (i := 0) (by kernel_rfl) ?_
  exact nr hm fun e => .inl ⟨rfl, e, H.ls, A⟩
 clear ho
 clear A
 intro e fr h2 hQ
 rcases hQ with ⟨rfl, rfl, H, A⟩ | ⟨x2, rfl, rfl, H, A⟩ | hF
 ·show AW _ _ _ _ _ _ _
  refine AH 1 (AP 1 [(4, Ai (-1))] H fun fr H => AY ?_)
  obtain rfl := Ag hm
  exact ⟨.inl rfl, _, rH H, rfl, A⟩
 ·obtain rfl := Ag hm
  exact ⟨.inl rfl, _, rH H, rfl, A⟩
 exact hF.elim
def DO (p0 : List UInt8) (p1 : Int) : Option (Int) :=
 (C4 p0 p1).bind fun x1 => some x1
theorem Jk {p0 p1 q0} (hm : DO p0 p1 = some q0) (A : HH g h [] F) (hc : BH (cfg.still 152) av = [.str p0, Ab p1] := by kernel_rfl) : ∃ v h', BN cfg g h 152 av v h' ∧ v = Ai q0 ∧ HH g h' [] F := by
 refine Dr 8 [.tmp 4] hc ?_
 clear hc
 unfold DO at hm
 refine bg 8 [(0, .str p0), (1, Ab p1)] fun fr H => ?_
 refine AH 1 (Bn 1 [] 4 H fun fr H => ?_)
 obtain ⟨x1, hx, hm⟩ := bind_some hm
 obtain ⟨v1, h1, hr, rfl, A1⟩ := HV (av := [.str p0, Ab p1]) hx (A.cut 0)
 replace A := A.E8 A1
 refine BD 2 [] 7 hr H fun fr t H => ?_
 refine AP 1 [(4, Ai x1)] H fun fr H => AY ?_
 obtain rfl := Ag hm
 exact ⟨.inl rfl, _, rH H, rfl, A⟩
def GJ (p0 : List UInt8) : Option ((List UInt8)) :=
 (Ce p0).bind fun x1 => (DO x1 (47 : Int)).bind fun x2 => (Ln x1 (some (IntKind.i64.wrap (x2 + 1))) none).bind fun x3 => some x3
theorem L4 {p0 q0} (hm : GJ p0 = some q0) (A : HH g h [] F) (hc : BH (cfg.still 90) av = [.str p0] := by kernel_rfl) : ∃ v h', BN cfg g h 90 av v h' ∧ v = .str q0 ∧ HH g h' [] F := by
 refine Dr 10 [.tmp 2] hc ?_
 clear hc
 unfold GJ at hm
 refine bg 10 [(0, .str p0)] fun fr H => ?_
 refine AH 1 (Bn 1 [] 3 H fun fr H => ?_)
 obtain ⟨x1, hx, hm⟩ := bind_some hm
 obtain ⟨v1, h1, hr, rfl, A1⟩ := GU (av := [.str p0, .str ([47] : List UInt8)]) hx (A.cut 0)
 replace A := A.E8 A1
 refine BD 1 [] 4 hr H fun fr t H => ?_
 refine Bk 1 [(0, .str x1)] H fun fr H => Cb 6 id ?_
 obtain ⟨x2, hx, hm⟩ := bind_some hm
 obtain ⟨v1, h2, hr, rfl, A1⟩ := Jk (av := [.str x1, Ab 47]) hx (A.cut 0)
 replace A := A.E8 A1
 refine BD 2 [(5, .str x1)] 7 hr H fun fr t H => ?_
 obtain ⟨x3, hx, hm⟩ := bind_some hm
 refine Ax 1 [] 9 (.str x3) h2 H (fun fr => .of (JV (k := .i64) (k' := .i64) (lo := (some (IntKind.i64.wrap (x2 + 1)))) (hi := none) (by kernel_rfl) hx)) fun fr t H => ?_
 refine AP 1 [(2, .str x3)] H fun fr H => AY ?_
 obtain rfl := Ag hm
 exact ⟨.inl rfl, _, rH H, rfl, A⟩
def D2 (p0 : List UInt8) (p1 : List UInt8) : Option (Bool) :=
 (Af (decide ((p0.length : Int) ≥ (p1.length : Int))) ((Ln p0 none (some (p1.length : Int))).bind fun x2 => some (x2 == p1)) (some false) : Option (Bool)).bind fun x1 => some x1
theorem JY {p0 p1 q0} (hm : D2 p0 p1 = some q0) (A : HH g h [] F) (hc : BH (cfg.still 153) av = [.str p0, .str p1] := by kernel_rfl) : ∃ v h', BN cfg g h 153 av v h' ∧ v = .bool q0 ∧ HH g h' [] F := by
 refine Dr 18 [.tmp 4] hc ?_
 clear hc
 unfold D2 at hm
 refine bg 18 [(0, .str p0), (1, .str p1)] fun fr H => ?_
 refine AH 1 (Bn 1 [] 14 H fun fr H => AG 6 [(10, .bool (decide ((p0.length : Int) ≥ (p1.length : Int))))] H fun fr H => ?_)
 obtain ⟨x1, ho, hm⟩ := bind_some hm
 refine Aq 7 (fun fr' h' => Has fr' 18 [(17, .bool x1)] ∧ HH g h' [] F) ?_ ?_
 ·rcases Ac ho with ⟨hb, hm⟩ | ⟨hb, hm⟩
  ·replace H := H.kn 10 hb
   obtain ⟨x2, hx, hm⟩ := bind_some hm
   refine Ax 3 [] 14 (.str x2) h H (fun fr => .of (JV (k := .i64) (k' := .i64) (lo := none) (hi := (some (p1.length : Int))) (by kernel_rfl) hx)) fun fr t H => ?_
   refine AG 3 [(17, .bool (x2 == p1))] H fun fr H => ?_
   obtain rfl := Ag hm
   exact at_nil ⟨H.ls, A⟩
  replace H := H.kn 10 hb
  refine AG 7 [(17, .bool false)] H fun fr H => ?_
  obtain rfl := Ag hm
  exact at_nil ⟨H.ls, A⟩
 clear A
 intro t fr h1 hK
 obtain ⟨H, A⟩ := hK
 refine AP 1 [(4, .bool x1)] H fun fr H => AY ?_
 obtain rfl := Ag hm
 exact ⟨.inl rfl, _, rH H, rfl, A⟩
def Cv (p0 : List UInt8) (p1 : List UInt8) : Option (Bool) :=
 (D2 p0 p1).bind fun x1 => some x1
theorem GB {p0 p1 q0} (hm : Cv p0 p1 = some q0) (A : HH g h [] F) (hc : BH (cfg.still 91) av = [.str p0, .str p1] := by kernel_rfl) : ∃ v h', BN cfg g h 91 av v h' ∧ v = .bool q0 ∧ HH g h' [] F := by
 refine Dr 8 [.tmp 4] hc ?_
 clear hc
 unfold Cv at hm
 refine bg 8 [(0, .str p0), (1, .str p1)] fun fr H => ?_
 refine AH 1 (Bn 1 [] 4 H fun fr H => ?_)
 obtain ⟨x1, hx, hm⟩ := bind_some hm
 obtain ⟨v1, h1, hr, rfl, A1⟩ := JY (av := [.str p0, .str p1]) hx (A.cut 0)
 replace A := A.E8 A1
 refine BD 2 [] 7 hr H fun fr t H => ?_
 refine AP 1 [(4, .bool x1)] H fun fr H => AY ?_
 obtain rfl := Ag hm
 exact ⟨.inl rfl, _, rH H, rfl, A⟩
def D1 (p0 : List UInt8) : Option ((List UInt8)) :=
 some p0
theorem Je {p0 q0_11} (hm : D1 p0 = some q0_11) (A : HH g h [] F) (hc : BH (cfg.still 157) av = [.str p0, .str ([47] : List UInt8), Ai (0 : Int)] := by kernel_rfl) : ∃ v h', BN cfg g h 157 av v h' ∧ ∃ (bq0_10 : Nat) (bq0_11 : Nat) (bq0_12 : Nat), v = .func (.func 227) [] [.ptr (some (bq0_10, 0)), .ptr (some (bq0_11, 0)), .ptr (some (bq0_12, 0))] ∧ HH g h' [.obj bq0_10 (.cells none 2 [.str ([47] : List UInt8)]), .obj bq0_11 (.cells none 2 [.str q0_11]), .obj bq0_12 (.cells none 2 [Ai (0 : Int)])] F := by
 refine Dr 8 [.tmp 6] hc ?_
 clear hc
 unfold D1 at hm
 refine bg 8 [(0, .str p0), (1, .str ([47] : List UInt8)), (2, Ai (0 : Int))] fun fr H => ?_
 refine AH 4 ?_
 obtain ⟨h1, e1, A⟩ := A.pu (.cells none 2 [.str p0])
 refine A7 3 (.ptr (some (h.size, 0))) e1 H fun fr t H => ?_
 obtain ⟨h2, e2, A⟩ := A.pu (.cells none 2 [.str ([47] : List UInt8)])
 refine A7 4 (.ptr (some (h1.size, 0))) e2 H fun fr t H => ?_
 obtain ⟨h3, e3, A⟩ := A.pu (.cells none 2 [Ai 0])
 refine A7 5 (.ptr (some (h2.size, 0))) e3 H fun fr t H => ?_
 refine Bn 1 [] 2 H fun fr H => AP 2 [(6, .func (.func 227) [] [.ptr (some (h1.size, 0)), .ptr (some (h.size, 0)), .ptr (some (h2.size, 0))])] H fun fr H => AY ?_
 obtain rfl := Ag hm
 refine ⟨.inl rfl, .func (.func 227) [] [.ptr (some (h1.size, 0)), .ptr (some (h.size, 0)), .ptr (some (h2.size, 0))], rH H, ?_⟩
 replace A : HH g h3 [.obj h1.size (.cells none 2 [.str ([47] : List UInt8)]), .obj h.size (.cells none 2 [.str p0]), .obj h2.size (.cells none 2 [Ai 0])] F := (((A.front 0 rfl).front 2 rfl).front 2 rfl)
 exact ⟨h1.size, h.size, h2.size, rfl, A⟩
def ES (p0 : List UInt8) : Option ((List UInt8)) :=
 (D1 p0).bind fun x1_11 => some x1_11
theorem Jp {p0 q0_11} (hm : ES p0 = some q0_11) (A : HH g h [] F) (hc : BH (cfg.still 96) av = [.str p0, .str ([47] : List UInt8)] := by kernel_rfl) : ∃ v h', BN cfg g h 96 av v h' ∧ ∃ (bq0_10 : Nat) (bq0_11 : Nat) (bq0_12 : Nat), v = .func (.func 227) [] [.ptr (some (bq0_10, 0)), .ptr (some (bq0_11, 0)), .ptr (some (bq0_12, 0))] ∧ HH g h' [.obj bq0_10 (.cells none 2 [.str ([47] : List UInt8)]), .obj bq0_11 (.cells none 2 [.str q0_11]), .obj bq0_12 (.cells none 2 [Ai (0 : Int)])] F := by
 refine Dr 8 [.tmp 4] hc ?_
 clear hc
 unfold ES at hm
 refine bg 8 [(0, .str p0), (1, .str ([47] : List UInt8))] fun fr H => ?_
 refine AH 1 (Bn 1 [] 4 H fun fr H => ?_)
 obtain ⟨x1_11, hx, hm⟩ := bind_some hm
 obtain ⟨v1, h1, hr, bqw1_10, bqw1_11, bqw1_12, rfl, A1⟩ := Je (av := [.str p0, .str ([47] : List UInt8), Ai 0]) hx (A.cut 0)
 replace A := A.Yp A1
 refine BD 2 [] 7 hr H fun fr t H => ?_
 refine AP 1 [(4, .func (.func 227) [] [.ptr (some (bqw1_10, 0)), .ptr (some (bqw1_11, 0)), .ptr (some (bqw1_12, 0))])] H fun fr H => AY ?_
 obtain rfl := Ag hm
 exact ⟨.inl rfl, _, rH H, _, _, _, rfl, A⟩
def By {SY RY : Type} (Y : SY → (List UInt8) → Option (SY ⊕ RY)) (s : (List UInt8) × (SY ⊕ RY)) : Option (((List UInt8) × (SY ⊕ RY)) ⊕ (((List UInt8) × (SY ⊕ RY)) ⊕ ((List UInt8) × (SY ⊕ RY)))) :=
 match s with
 | (x1, y1) => Fh (decide (x1.length ≤ 4294967280)) <| Af (decide ((Lib.index x1 ([47] : List UInt8)) < 0)) (some (.inr (.inl (x1, y1)))) ((Ln x1 none (some (IntKind.i64.wrap ((Lib.index x1 ([47] : List UInt8)) + 0)))).bind fun x4 => (SI Y y1 x4).bind fun (x5, y4) => Af (!x5) (some (.inr (.inr (x1, y4)))) ((Ln x1 (some (IntKind.i64.wrap ((Lib.index x1 ([47] : List UInt8)) + 1))) none).bind fun x6 => some (.inl (x6, y4))))
def DC {SY RY : Type} (Y : SY → (List UInt8) → Option (SY ⊕ RY)) (y : SY ⊕ RY) (p2 : List UInt8) : Option ((List UInt8) × (SY ⊕ RY)) :=
 (loop (By Y) (p2, y)).bind fun o1 => (match o1 with | .inl (x2, y2) => (SI Y y2 x2).bind fun (x7, y5) => some (x2, y5) | .inr (x3, y3) => some (x3, y3))
theorem Hs {SY RY : Type} {R : SY ⊕ RY → List Ck → Prop} {Y : SY → (List UInt8) → Option (SY ⊕ RY)} {y : SY ⊕ RY} {p2 l bp1 bp2 bp3 u1} {yq : SY ⊕ RY} (hm : DC Y y p2 = some (u1, yq)) (hc : BH (cfg.still 227) av = [.KJ l, .ptr (some (bp1, 0)), .ptr (some (bp2, 0)), .ptr (some (bp3, 0))]) (hYR : YR cfg g l (fun x => [.str x]) Y R) (B : R y F) (A : HH g h [.obj bp1 (.cells none 2 [.str ([47] : List UInt8)]), .obj bp2 (.cells none 2 [.str p2]), .obj bp3 (.cells none 2 [Ai (0 : Int)])] F) : ∃ v h', BN cfg g h 227 av v h' ∧ v = .tuple [] ∧ ∃ F, R yq F ∧ HH g h' [.obj bp1 (.cells none 2 [.str ([47] : List UInt8)]), .obj bp2 (.cells none 2 [.str u1]), .obj bp3 (.cells none 2 [Ai (0 : Int)])] F := by
 refine Dr 52 [] hc ?_
 clear hc
 unfold DC at hm
 refine bg 52 [(0, .KJ l), (1, .ptr (some (bp1, 0))), (2, .ptr (some (bp2, 0))), (3, .ptr (some (bp3, 0)))] fun fr H => ?_
 refine AV (AH 3 (Ek 9 0 0 A H fun fr t H => ?_))
 refine AP 2 [(11, .bool false)] H fun fr H => OY (x := .tmp 11) (by kernel_rfl) H (fun fr => by kernel_rfl) ?_
 refine Br id (AV (Aa (id := 2) (by kernel_rfl) ?_))
 obtain ⟨o1, ho, hm⟩ := bind_some hm
 refine BG (Q' := fun e fr' h' => (∃ x2, ∃ (y2 : SY ⊕ RY), e = .exit 2 ∧ .inl (x2, y2) = o1 ∧ Has fr' 52 [(0, .KJ l), (2, .ptr (some (bp2, 0)))] ∧ ∃ F, R y2 F ∧ HH g h' [.obj bp1 (.cells none 2 [.str ([47] : List UInt8)]), .obj bp2 (.cells none 2 [.str x2]), .obj bp3 (.cells none 2 [Ai 0])] F) ∨ (∃ x3, ∃ (y3 : SY ⊕ RY), e = .ret ∧ .inr (x3, y3) = o1 ∧ Has fr' 52 [] ∧ ∃ F, R y3 F ∧ HH g h' [.obj bp1 (.cells none 2 [.str ([47] : List UInt8)]), .obj bp2 (.cells none 2 [.str x3]), .obj bp3 (.cells none 2 [Ai 0])] F) ∨ False) ?_ ?_
 ·refine Bv (by kernel_rfl) (fun (s : (List UInt8) × (SY ⊕ RY)) fr' h' => ∃ x1, ∃ (y1 : SY ⊕ RY), (x1, y1) = s ∧ Has fr' 52 [(0, .KJ l), (1, .ptr (some (bp1, 0))), (2, .ptr (some (bp2, 0))), (3, .ptr (some (bp3, 0)))] ∧ ∃ F, R y1 F ∧ HH g h' [.obj bp1 (.cells none 2 [.str ([47] : List UInt8)]), .obj bp2 (.cells none 2 [.str x1]), .obj bp3 (.cells none 2 [Ai 0])] F) ho ⟨p2, y, rfl, H.ls, ⟨F, B, A⟩⟩ ?_
  clear ho hm H A
  intro s q fr h1 hI hm
  obtain ⟨x1, y1, rfl, H, ⟨F, B, A⟩⟩ := hI
  unfold By at hm
  refine Aa (id := 3) (by kernel_rfl) ?_
  refine AH 4 (Ek 29 1 0 A H fun fr t H => ?_)
  refine Ek 30 0 0 A H fun fr t H => ?_
  obtain ⟨hb, hm⟩ := BQ hm
  refine As 31 (Ai (Lib.index x1 ([47] : List UInt8))) h1 H (fun fr => Steps.call (by kernel_rfl) (T0 (C := cfg) (f := 228) (a := 0) (by kernel_rfl) (l := exts) rfl (by kernel_rfl) hb)) fun fr t H => ?_
  refine AP 1 [(7, Ai (Lib.index x1 ([47] : List UInt8)))] H fun fr H => AV (AH 2 (AP 2 [(33, .bool (decide ((Lib.index x1 ([47] : List UInt8)) < 0)))] H fun fr H => Ak 33 H hm (fun hb hm H => ?_) fun hb hm H => ?_))
  ·refine Bh (i := 2) (by kernel_rfl) ?_
   exact nr hm fun e => .inl ⟨x1, y1, rfl, e, H.ls, ⟨F, B, A⟩⟩
  refine Cc 6 id (Ek 34 1 0 A H fun fr t H => ?_)
  refine AZ 1 [(35, Ai (Lib.index x1 ([47] : List UInt8)))] 36 2 0 A H fun fr t H => ?_
  obtain ⟨x4, hx, hm⟩ := bind_some hm
  refine Ax 1 [] 38 (.str x4) h1 H (fun fr => .of (JV (k := .i64) (k' := .i64) (lo := none) (hi := (some (IntKind.i64.wrap ((Lib.index x1 ([47] : List UInt8)) + 0)))) (by kernel_rfl) hx)) fun fr t H => ?_
  refine AP 1 [(8, .str x4)] H fun fr H => AV (AH 4 ?_)
  obtain ⟨⟨x5, y4⟩, hx, hm⟩ := bind_some hm
  obtain ⟨h2, F, hr, B, A⟩ := hYR.SI (pr := []) .nil A B hx
  refine Ax 2 [] 41 (.bool x5) h2 H (fun fr => Steps.round (by kernel_rfl) hr) fun fr t H => ?_
  refine AP 1 [(42, .bool (!x5))] H fun fr H => Ak 42 H hm (fun hb hm H => ?_) fun hb hm H => ?_
  ·refine AY ?_
   exact nr hm fun e => Or.inr (.inl ⟨x1, y4, rfl, e, H.ls, ⟨F, B, A⟩⟩)
  refine Fg 7 id (Ek 43 1 0 A H fun fr t H => ?_)
  refine AZ 1 [(44, Ai (Lib.index x1 ([47] : List UInt8)))] 45 0 0 A H fun fr t H => ?_
  obtain ⟨x6, hx, hm⟩ := bind_some hm
  refine Ax 2 [] 48 (.str x6) h2 H (fun fr => .of (JV (k := .i64) (k' := .i64) (lo := (some (IntKind.i64.wrap ((Lib.index x1 ([47] : List UInt8)) + 1)))) (hi := none) (by kernel_rfl) hx)) fun fr t H => ?_
  obtain ⟨h3, hx, A1⟩ := A.st 1 rfl (o := 0) (new := [.str x6]) (ds := [.str x6]) (Nat.le_of_ble_eq_true rfl) rfl rfl
  replace A : HH g h3 [.obj bp1 (.cells none 2 [.str ([47] : List UInt8)]), .obj bp2 (.cells none 2 [.str x6]), .obj bp3 (.cells none 2 [Ai 0])] F := A1
  refine Ep hx H fun fr t H => ?_
  refine at_nil ?_
  exact nx hm ⟨x6, y4, rfl, H.ls, ⟨F, B, A⟩⟩
 clear ho
 clear A
 intro e fr h4 hQ
 rcases hQ with ⟨x2, y2, rfl, rfl, H, ⟨F, B, A⟩⟩ | ⟨x3, y3, rfl, rfl, H, ⟨F, B, A⟩⟩ | hF
 ·show AW _ _ _ _ _ _ _
  refine ED 3 (AZ 1 [(49, .KJ l)] 50 1 0 A H fun fr t H => ?_)
  obtain ⟨⟨x7, y5⟩, hx, hm⟩ := bind_some hm
  obtain ⟨h5, F, hr, B, A⟩ := hYR.SI (pr := []) .nil A B hx
  refine Mv (.bool x7) h5 H (fun fr => Steps.round (by kernel_rfl) hr) fun fr t H => ?_
  refine at_nil ?_
  obtain ⟨rfl, rfl⟩ := C9 hm
  refine ⟨.inr rfl, .tuple [], rH H, ?_⟩
  exact ⟨rfl, ⟨F, B, A⟩⟩
 ·obtain ⟨rfl, rfl⟩ := C9 hm
  exact ⟨.inl rfl, _, rH H, rfl, ⟨F, B, A⟩⟩
 exact hF.elim
def Dk (s : (List (List UInt8))) (v1 : (List UInt8)) : Option (((List (List UInt8))) ⊕ (Unit)) :=
 match s with
 | x2 => Af (!(v1 == ([] : List UInt8))) (Fh (Np 16 (x2.length + ([v1] : List (List UInt8)).length)) <| some (.inl (x2 ++ ([v1] : List (List UInt8))))) (some (.inl x2))
def EV (p0 : List UInt8) : Option ((List (List UInt8))) :=
 (ES p0).bind fun x1_11 => (DC (Dk) (.inl ([] : List (List UInt8))) x1_11).bind fun (x3, y1) => (match y1 with | .inl x2 => some x2 | .inr _ => none)
theorem HC {p0 q0} (hm : EV p0 = some q0) (A : HH g h [] F) (hc : BH (cfg.still 56) av = [.str p0] := by kernel_rfl) : ∃ v h', BN cfg g h 56 av v h' ∧ v = vs eS q0 ∧ HH g h' [] F := by
 refine Xz 15 [.tmp 2] hc ?_
 clear hc
 unfold EV at hm
 refine bg 15 [(0, .str p0)] fun fr H => ?_
 refine AH 1 (Bn 1 [] 1 H fun fr H => ?_)
 obtain ⟨h1, e1, A⟩ := A.pu (.cells none 2 [.slice none 0])
 refine A7 3 (.ptr (some (h.size, 0))) e1 H fun fr t H => ?_
 refine BF id (AV (AH 2 ?_))
 obtain ⟨x1_11, hx, hm⟩ := bind_some hm
 obtain ⟨v1, h2, hr, bqw1_10, bqw1_11, bqw1_12, rfl, A1⟩ := Jp (av := [.str p0, .str ([47] : List UInt8)]) hx (A.cut 0)
 replace A : HH g h2 [.obj bqw1_10 (.cells none 2 [.str ([47] : List UInt8)]), .obj bqw1_11 (.cells none 2 [.str x1_11]), .obj bqw1_12 (.cells none 2 [Ai (0 : Int)]), .obj h.size (.cells none 2 [.slice none 0])] F := A.CY (n := 0) A1
 refine BD 1 [] 6 hr H fun fr t H => ?_
 refine BF id (Aa (id := 0) (by kernel_rfl) ?_)
 replace A : HH g h2 [.AL none 9 (AL eS ([] : List (List UInt8))), _, _, _, _] F := A.I5 9
 replace A : HH g h2 [_, _, _, _, .obj h.size (.cells none 2 [AF none (([] : List (List UInt8)).length)])] F := (((((A.front 4 rfl).front 1 rfl).front 4 rfl).front 4 rfl).front 4 rfl)
 obtain ⟨⟨x3, y1⟩, ho, hm⟩ := bind_some hm
 refine M5 (C := cfg) (x := .tmp 6) (ps := [7]) (f' := 227) (first := []) (cap := [.ptr (some (bqw1_10, 0)), .ptr (some (bqw1_11, 0)), .ptr (some (bqw1_12, 0))]) (Lu := [.obj bqw1_10 (.cells none 2 [.str ([47] : List UInt8)]), .obj bqw1_11 (.cells none 2 [.str x1_11]), .obj bqw1_12 (.cells none 2 [Ai 0])]) (Lc := [.AL none 9 (AL eS ([] : List (List UInt8))), .obj h.size (.cells none 2 [AF none (([] : List (List UInt8)).length)])]) (F := F) (ex := fun x => [.str x]) (Y := Dk) (PL := fun s Lc => ∃ (x2 : List (List UInt8)), x2 = s ∧ ∃ (r1 : Option Nat), Lc = [.AL r1 9 (AL eS x2), .obj h.size (.cells none 2 [AF r1 x2.length])]) (PR := fun r Lc => False) (pe := fun _ => .ret) (s := ([] : List (List UInt8))) (y := y1) (PU := fun L => L = [.obj bqw1_10 (.cells none 2 [.str ([47] : List UInt8)]), .obj bqw1_11 (.cells none 2 [.str x3]), .obj bqw1_12 (.cells none 2 [Ai 0])]) (by kernel_rfl) H (fun fr => by kernel_rfl) (by kernel_rfl) (fun _ => rfl) (by kernel_rfl) A ⟨([] : List (List UInt8)), rfl, none, rfl⟩ ?_ ?_ ?_ ?_ ?_
 ·refine KY H (kn := fun v1 => [(3, .ptr (some (h.size, 0))), (7, .str v1)]) (fun v1 fr => by kernel_rfl) ?_
  clear ho hm A H
  intro g h3 F s v1 o Lc fr H hP hm A
  obtain ⟨x2, rfl, r1, rfl⟩ := hP
  unfold Dk at hm
  show AW _ _ _ _ _ _ _
  refine ED 1 (Bk 1 [(3, .ptr (some (h.size, 0))), (4, .str v1)] H fun fr H => at_nil ?_)
  refine ⟨rfl, _, A, ?_⟩
  clear A
  intro h4 F A
  show AW _ _ _ _ _ _ _
  refine Aa (id := 1) (by kernel_rfl) ?_
  refine AH 2 (AP 2 [(9, .bool (!(v1 == ([] : List UInt8))))] H fun fr H => Ak 9 H hm (fun hb hm H => ?_) fun hb hm H => ?_)
  ·refine ED 5 (Ek 10 1 0 A H fun fr t H => ?_)
   refine AG 1 [(11, .str v1)] H fun fr H => ?_
   obtain ⟨h5, e2, A⟩ := A.pL 9 [.str v1]
   refine A7 12 (AF (some h4.size) (([v1] : List (List UInt8)).length)) e2 H fun fr t H => ?_
   obtain ⟨hb, hm⟩ := BQ hm
   obtain ⟨r2, h6, hx, A1⟩ := HH.Lo encS (by decide) A 1 (xs := x2) (ys := ([v1] : List (List UInt8))) rfl (DM A 0 rfl (n := ([v1] : List (List UInt8)).length) (z := 1) rfl (by decide)) rfl rfl hb
   replace A : HH g h6 [.AL (some h4.size) 9 ([.str v1]), .AL r2 9 (AL eS (x2 ++ ([v1] : List (List UInt8)))), .obj h.size (.cells none 2 [AF r1 x2.length])] F := A1
   replace A := A.k2 1 2
   refine As 13 _ _ H (fun fr => .of (IE (s := DP r1 x2.length) (by kernel_rfl) hx)) fun fr t H => ?_
   obtain ⟨h7, hx, A1⟩ := A.st 1 rfl (o := 0) (new := [AF r2 ((x2 ++ ([v1] : List (List UInt8))).length)]) (ds := [AF r2 ((x2 ++ ([v1] : List (List UInt8))).length)]) (Nat.le_of_ble_eq_true rfl) rfl rfl
   replace A : HH g h7 [_, .obj h.size (.cells none 2 [AF r2 ((x2 ++ ([v1] : List (List UInt8))).length)])] F := A1
   refine Ep hx H fun fr t H => ?_
   refine at_nil ?_
   have e1 := Option.some.inj hm
   subst e1
   exact ⟨rfl, _, ⟨(x2 ++ ([v1] : List (List UInt8))), rfl, r2, rfl⟩, A⟩
  refine HG ?_
  have e1 := Option.some.inj hm
  subst e1
  exact ⟨rfl, _, ⟨x2, rfl, r1, rfl⟩, A⟩
 ·intro h1 l F1 R hYR B A
  obtain ⟨v1, h2, hr, _, F2, B, A⟩ := Hs (av := [.KJ l, .ptr (some (bqw1_10, 0)), .ptr (some (bqw1_11, 0)), .ptr (some (bqw1_12, 0))]) ho (by kernel_rfl) hYR B A
  exact ⟨v1, h2, F2, _, hr, B, rfl, A⟩
 ·clear ho A
  intro s2 h8 Lc Lu ey hP hU A
  subst ey
  obtain ⟨x2, rfl, r1, rfl⟩ := hP
  subst hU
  replace A : HH g h8 [.obj bqw1_10 (.cells none 2 [.str ([47] : List UInt8)]), .obj bqw1_11 (.cells none 2 [.str x3]), .obj bqw1_12 (.cells none 2 [Ai 0]), .AL r1 9 (AL eS x2), .obj h.size (.cells none 2 [AF r1 x2.length])] F := A
  show AW _ _ _ _ _ _ _
  refine AH 2 (OE (v := AF r1 x2.length) (h1 := h8) [(14, AF r1 x2.length)] H (fun fr => by kernel_rfl) (fun fr => .of (DU (by kernel_rfl) (A.l1 4 0))) ?_)
  intro fr t H
  refine AP 1 [(2, AF r1 x2.length)] H fun fr H => AY ?_
  obtain rfl := Ag hm
  refine ⟨.inl rfl, AF r1 x2.length, rH H, ?_⟩
  obtain ⟨h9, hz0, A1⟩ := (A.front 3 rfl).XI (n := x2.length) (z := 1) (encS.KT _) (by decide)
  replace A : HH g h9 [_, _, _, _] F := A1
  refine ⟨vs eS x2, h9, by first | rfl | (simp only [KL, KH, KN, J5, KP, KZ, KF, KV, KW, J3, KM, HM, G3, HL, HK, G2, HB, HF, Option.map_some, hz0] <;> rfl), ?_⟩
  replace A := A.d0
  exact ⟨rfl, A⟩
 ·clear ho A
  intro r2 h8 Lc Lu e ey he hP hU A
  subst ey
  subst hU
  exact False.elim hP
 exact fun _ => ⟨.ret, rfl⟩
def BX (p0 : List (List UInt8)) (s : Int) : Option ((Int) ⊕ ((Unit) ⊕ (Int))) :=
 match s with
 | x1 => Af (decide (x1 < (p0.length : Int))) ((GP p0 x1).bind fun x3 => (G8 x3).bind fun x4 => Af x4 (some (.inr (.inr x1))) (some (.inl (IntKind.i64.wrap (x1 + 1))))) (some (.inr (.inl ())))
def CJ (p0 : List (List UInt8)) : Option (Int) :=
 (loop (BX p0) (0 : Int)).bind fun o1 => (match o1 with | .inl _ => some (-1 : Int) | .inr x2 => some x2)
theorem GH {p0 q0} (hm : CJ p0 = some q0) (A : HH g h [] F) (hc : BH (cfg.still 161) av = [vs eS p0, .func (.func 100) [] []] := by kernel_rfl) : ∃ v h', BN cfg g h 161 av v h' ∧ v = Ai q0 ∧ HH g h' [] F := by
 refine Dr 19 [.tmp 4] hc ?_
 clear hc
 unfold CJ at hm
 refine bg 19 [(0, vs eS p0), (1, .func (.func 100) [] [])] fun fr H => ?_
 refine AH 1 (AP 1 [] H fun fr H => AV (AH 3 (AP 3 [(7, Ai (p0.length : Int)), (8, Ai 0)] H fun fr H => Aa (id := 0) (by kernel_rfl) ?_)))
 obtain ⟨o1, ho, hm⟩ := bind_some hm
 refine BG (Q' := fun e fr' h' => (e = .exit 0 ∧ .inl () = o1 ∧ Has fr' 19 [] ∧ HH g h' [] F) ∨ (∃ x2, e = .ret ∧ .inr x2 = o1 ∧ Has fr' 19 [(4, Ai x2)] ∧ HH g h' [] F) ∨ False) ?_ ?_
 ·refine Bv (by kernel_rfl) (fun (s : Int) fr' h' => ∃ x1, x1 = s ∧ Has fr' 19 [(0, vs eS p0), (1, .func (.func 100) [] []), (7, Ai (p0.length : Int)), (8, Ai x1)] ∧ HH g h' [] F) ho ⟨_, rfl, H.ls, A⟩ ?_
  clear ho hm H A
  intro s q fr h1 hI hm
  obtain ⟨x1, rfl, H, A⟩ := hI
  unfold BX at hm
  refine AH 1 (AP 1 [(9, .bool (decide (x1 < (p0.length : Int))))] H fun fr H => AV (Ak 9 H hm (fun hb hm H => ?_) fun hb hm H => ?_))
  ·refine Br id (AV (Aa (id := 1) (by kernel_rfl) ?_))
   refine AH 2 (Bn 2 [(5, Ai x1)] 6 H fun fr H => ?_)
   obtain ⟨x3, hx, hm⟩ := bind_some hm
   refine Ax 3 [(11, .func (.func 100) [] [])] 14 (.BC [.str x3]) h1 H (fun fr => .of (Ht (e := eS) (x := x3) encS (by decide) (by kernel_rfl) hx)) fun fr t H => ?_
   refine As 15 (.str x3) h1 H (fun fr => .of (IQ (by kernel_rfl))) fun fr t H => ?_
   obtain ⟨x4, hx, hm⟩ := bind_some hm
   obtain ⟨v1, h2, hr, rfl, A1⟩ := N1 (av := [.str x3]) hx (A.cut 0)
   replace A := A.E8 A1
   refine A8 16 hr H fun fr t H => ?_
   refine BF id (Ak 16 H hm (fun hb hm H => ?_) fun hb hm H => ?_)
   ·refine AH 2 (AP 2 [(4, Ai x1)] H fun fr H => AY ?_)
    exact nr hm fun e => Or.inr (.inl ⟨_, rfl, e, H.ls, A⟩)
   refine Fg 2 id (Bk 2 [(0, vs eS p0), (1, .func (.func 100) [] []), (7, Ai (p0.length : Int)), (8, Ai (IntKind.i64.wrap (x1 + 1)))] H fun fr H => at_nil ?_)
   exact nx hm ⟨_, rfl, H.ls, A⟩
  refine Bh (i := 0) (by kernel_rfl) ?_
  exact nr hm fun e => .inl ⟨rfl, e, H.ls, A⟩
 clear ho
 clear A
 intro e fr h3 hQ
 rcases hQ with ⟨rfl, rfl, H, A⟩ | ⟨x2, rfl, rfl, H, A⟩ | hF
 ·show AW _ _ _ _ _ _ _
  refine AH 1 (AP 1 [(4, Ai (-1))] H fun fr H => AY ?_)
  obtain rfl := Ag hm
  exact ⟨.inl rfl, _, rH H, rfl, A⟩
 ·obtain rfl := Ag hm
  exact ⟨.inl rfl, _, rH H, rfl, A⟩
 exact hF.elim
def Dg (p0 : List (List UInt8)) (s : Int × Int) : Option ((Int × Int) ⊕ ((Int))) :=
 match s with
 | (x2, x3) => Af (decide (x3 < (p0.length : Int))) (none) (some (.inr x2))
def Bu (p0 : List (List UInt8)) : Option ((List (List UInt8))) :=
 (CJ p0).bind fun x1 => Af (x1 == (-1)) (some p0) ((loop (Dg p0) (x1, IntKind.i64.wrap (x1 + 1))).bind fun x4 => none)
theorem GF {p0 q0} (hm : Bu p0 = some q0) (A : HH g h [] F) (hc : BH (cfg.still 98) av = [vs eS p0, .func (.func 100) [] []] := by kernel_rfl) : ∃ v h', BN cfg g h 98 av v h' ∧ v = vs eS q0 ∧ HH g h' [] F := by
 refine Dr 42 [.tmp 4] hc ?_
 clear hc
 unfold Bu at hm
 refine bg 42 [(0, vs eS p0), (1, .func (.func 100) [] [])] fun fr H => ?_
 refine AH 1 (Bn 1 [] 4 H fun fr H => ?_)
 obtain ⟨x1, hx, hm⟩ := bind_some hm
 obtain ⟨v1, h1, hr, rfl, A1⟩ := GH (av := [vs eS p0, .func (.func 100) [] []]) hx (A.cut 0)
 replace A := A.E8 A1
 refine BD 2 [] 10 hr H fun fr t H => ?_
 refine AP 1 [(5, Ai x1)] H fun fr H => AV (AH 2 (AP 2 [(12, .bool (x1 == (-1)))] H fun fr H => Ak 12 H hm (fun hb hm H => ?_) fun hb hm H => ?_))
 ·refine AH 2 (AP 2 [(4, vs eS p0)] H fun fr H => AY ?_)
  obtain rfl := Ag hm
  exact ⟨.inl rfl, _, rH H, rfl, A⟩
 refine Br id (AV (AH 3 (AP 3 [(6, Ai (IntKind.i64.wrap (x1 + 1)))] H fun fr H => Aa (id := 0) (by kernel_rfl) ?_)))
 obtain ⟨o1, ho, hm⟩ := bind_some hm
 refine BG (Q' := fun e fr' h' => (∃ x4, e = .exit 0 ∧ x4 = o1 ∧ Has fr' 42 [(0, vs eS p0), (5, Ai x4)] ∧ HH g h' [] F) ∨ False) ?_ ?_
 ·refine Bv (by kernel_rfl) (fun (s : Int × Int) fr' h' => ∃ x2 x3, (x2, x3) = s ∧ Has fr' 42 [(0, vs eS p0), (1, .func (.func 100) [] []), (5, Ai x2), (6, Ai x3)] ∧ HH g h' [] F) ho ⟨_, _, rfl, H.ls, A⟩ ?_
  clear ho hm H A
  intro s q fr h2 hI hm
  obtain ⟨x2, x3, rfl, H, A⟩ := hI
  unfold Dg at hm
  refine AV (AH 4 (AP 4 [(19, .bool (decide (x3 < (p0.length : Int))))] H fun fr H => Ak 19 H hm (fun hb hm H => ?_) fun hb hm H => ?_))
  ·refine Br id (AV ?_)
   cases hm
  refine Bh (i := 0) (by kernel_rfl) ?_
  exact nr hm fun e => .inl ⟨_, rfl, e, H.ls, A⟩
 clear ho
 clear A
 intro e fr h3 hQ
 rcases hQ with ⟨x4, rfl, rfl, H, A⟩ | hF
 ·cases hm
 exact hF.elim
def Et (p0 : List (List UInt8)) : Option ((List UInt8)) :=
 Fh (Np 16 p0.length) <| (Bu p0).bind fun x1 => Fh (Q1 x1 ([47] : List UInt8)) <| some (Lib.join x1 ([47] : List UInt8))
theorem Hi {p0 q0} (hm : Et p0 = some q0) (A : HH g h [] F) (hc : BH (cfg.still 57) av = [vs eS p0] := by kernel_rfl) : ∃ v h', BN cfg g h 57 av v h' ∧ v = .str q0 ∧ HH g h' [] F := by
 refine Dr 7 [.tmp 2] hc ?_
 clear hc
 unfold Et at hm
 refine bg 7 [(0, vs eS p0)] fun fr H => ?_
 refine AH 1 (Bn 1 [] 5 H fun fr H => ?_)
 have A1 := A.cut 0
 obtain ⟨hb, hm⟩ := BQ hm
 refine Ax 1 [] 4 (vs eS p0) h H (fun fr => Steps.call (by kernel_rfl) (Gh (C := cfg) (f := 99) (a := 0) (t := 9) (xs := p0) encS (by decide) (by kernel_rfl) (l := exts) rfl (by kernel_rfl) (by kernel_rfl) rfl (Kx encS _ p0) (encS.BH _) hb)) fun fr t H => ?_
 obtain ⟨x1, hx, hm⟩ := bind_some hm
 obtain ⟨v1, h2, hr, rfl, A1⟩ := GF (av := [vs eS p0, .func (.func 100) [] []]) hx (A.cut 0)
 replace A := A.E8 A1
 refine A8 5 hr H fun fr t H => ?_
 obtain ⟨hb, hm⟩ := BQ hm
 refine As 6 (.str (Lib.join x1 ([47] : List UInt8))) h2 H (fun fr => Steps.call (by kernel_rfl) (Uj (C := cfg) (f := 97) (xs := x1) (by kernel_rfl) (l := exts) rfl (by kernel_rfl) rfl (Kx encS _ x1) hb)) fun fr t H => ?_
 refine AP 1 [(2, .str (Lib.join x1 ([47] : List UInt8)))] H fun fr H => AY ?_
 obtain rfl := Ag hm
 exact ⟨.inl rfl, _, rH H, rfl, A⟩
def GC (p0 : List UInt8) : Option ((List UInt8) × Bool) :=
 (EV p0).bind fun x1 => Af (decide ((x1.length : Int) < 2)) (some (([] : List UInt8), false)) ((Rn x1 none (some (IntKind.i64.wrap ((x1.length : Int) - 1)))).bind fun x2 => (Et x2).bind fun x3 => some (x3, true))
theorem Nz {p0 q0 q1} (hm : GC p0 = some (q0, q1)) (A : HH g h [] F) (hc : BH (cfg.still 92) av = [.str p0] := by kernel_rfl) : ∃ v h', BN cfg g h 92 av v h' ∧ v = .tuple [.str q0, .bool q1] ∧ HH g h' [] F := by
 refine Dr 16 [.tmp 2, .tmp 3] hc ?_
 clear hc
 unfold GC at hm
 refine bg 16 [(0, .str p0)] fun fr H => ?_
 refine AH 2 (Bn 2 [] 3 H fun fr H => ?_)
 obtain ⟨x1, hx, hm⟩ := bind_some hm
 obtain ⟨v1, h1, hr, rfl, A1⟩ := HC (av := [.str p0]) hx (A.cut 0)
 replace A := A.E8 A1
 refine BD 1 [] 6 hr H fun fr t H => ?_
 refine AP 1 [(4, vs eS x1)] H fun fr H => AV (AH 3 (AP 3 [(9, .bool (decide ((x1.length : Int) < 2)))] H fun fr H => Ak 9 H hm (fun hb hm H => ?_) fun hb hm H => ?_))
 ·refine AH 2 (AP 2 [(2, .str ([] : List UInt8)), (3, .bool false)] H fun fr H => AY ?_)
  obtain ⟨rfl, rfl⟩ := C9 hm
  exact ⟨.inl rfl, _, rH H, rfl, A⟩
 refine Cc 8 id ?_
 obtain ⟨x2, hx, hm⟩ := bind_some hm
 refine Ax 4 [] 14 (vs eS x2) h1 H (fun fr => .of (UI (e := eS) encS (k := .i64) (k' := .i64) (lo := none) (hi := (some (IntKind.i64.wrap ((x1.length : Int) - 1)))) (by kernel_rfl) hx)) fun fr t H => ?_
 obtain ⟨x3, hx, hm⟩ := bind_some hm
 obtain ⟨v1, h2, hr, rfl, A1⟩ := Hi (av := [vs eS x2]) hx (A.cut 0)
 replace A := A.E8 A1
 refine A8 15 hr H fun fr t H => ?_
 refine AP 2 [(2, .str x3), (3, .bool true)] H fun fr H => AY ?_
 obtain ⟨rfl, rfl⟩ := C9 hm
 exact ⟨.inl rfl, _, rH H, rfl, A⟩
def FQ (p0 : List UInt8) (p1 : Int) (p2 : List UInt8) : Option ((List UInt8) × Bool) :=
 (Af (p1 != 48) (some true) ((GJ p0).bind fun x2 => some (!(x2 == ([67, 65, 67, 72, 69, 68, 73, 82, 46, 84, 65, 71] : List UInt8)))) : Option (Bool)).bind fun x1 => (Af x1 (some true) ((Cv p2 ([83, 105, 103, 110, 97, 116, 117, 114, 101, 58, 32, 56, 97, 52, 55, 55, 102, 53, 57, 55, 100, 50, 56, 100, 49, 55, 50, 55, 56, 57, 102, 48, 54, 56, 56, 54, 56, 48, 54, 98, 99, 53, 53] : List UInt8)).bind fun x4 => some (!x4)) : Option (Bool)).bind fun x3 => Af x3 (some (([] : List UInt8), false)) ((GC p0).bind fun (x5, x6) => some (x5, true))
theorem Kf {p0 p1 p2 q0 q1} (hm : FQ p0 p1 p2 = some (q0, q1)) (A : HH g h [] F) (hc : BH (cfg.still 50) av = [.str p0, Ab p1, .str p2] := by kernel_rfl) : ∃ v h', BN cfg g h 50 av v h' ∧ v = .tuple [.str q0, .bool q1] ∧ HH g h' [] F := by
 refine Dr 28 [.tmp 6, .tmp 7] hc ?_
 clear hc
 unfold FQ at hm
 refine bg 28 [(0, .str p0), (1, Ab p1), (2, .str p2)] fun fr H => ?_
 refine AH 2 (AP 2 [] H fun fr H => AV (AH 12 (AG 3 [(12, .bool (p1 != 48))] H fun fr H => ?_)))
 obtain ⟨x1, ho, hm⟩ := bind_some hm
 refine Aq 4 (fun fr' h' => Has fr' 28 [(0, .str p0), (2, .str p2), (16, .bool x1)] ∧ HH g h' [] F) ?_ ?_
 ·rcases Ac ho with ⟨hb, hm⟩ | ⟨hb, hm⟩
  ·replace H := H.kn 12 hb
   refine AG 4 [(16, .bool true)] H fun fr H => ?_
   obtain rfl := Ag hm
   exact at_nil ⟨H.ls, A⟩
  replace H := H.kn 12 hb
  obtain ⟨x2, hx, hm⟩ := bind_some hm
  obtain ⟨v1, h2, hr, rfl, A1⟩ := L4 (av := [.str p0]) hx (A.cut 0)
  replace A := A.E8 A1
  refine BD 1 [] 14 hr H fun fr t H => ?_
  refine AG 2 [(16, .bool (!(x2 == ([67, 65, 67, 72, 69, 68, 73, 82, 46, 84, 65, 71] : List UInt8))))] H fun fr H => ?_
  obtain rfl := Ag hm
  exact at_nil ⟨H.ls, A⟩
 clear A
 intro t fr h1 hK
 obtain ⟨H, A⟩ := hK
 refine AG 1 [(17, .bool x1)] H fun fr H => ?_
 obtain ⟨x3, ho, hm⟩ := bind_some hm
 refine Aq 4 (fun fr' h' => Has fr' 28 [(0, .str p0), (21, .bool x3)] ∧ HH g h' [] F) ?_ ?_
 ·rcases Ac ho with ⟨hb, hm⟩ | ⟨hb, hm⟩
  ·replace H := H.kn 17 hb
   refine AG 4 [(21, .bool true)] H fun fr H => ?_
   obtain rfl := Ag hm
   exact at_nil ⟨H.ls, A⟩
  replace H := H.kn 17 hb
  obtain ⟨x4, hx, hm⟩ := bind_some hm
  obtain ⟨v1, h4, hr, rfl, A1⟩ := GB (av := [.str p2, .str ([83, 105, 103, 110, 97, 116, 117, 114, 101, 58, 32, 56, 97, 52, 55, 55, 102, 53, 57, 55, 100, 50, 56, 100, 49, 55, 50, 55, 56, 57, 102, 48, 54, 56, 56, 54, 56, 48, 54, 98, 99, 53, 53] : List UInt8)]) hx (A.cut 0)
  replace A := A.E8 A1
  refine BD 1 [] 19 hr H fun fr t H => ?_
  refine AG 2 [(21, .bool (!x4))] H fun fr H => ?_
  obtain rfl := Ag hm
  exact at_nil ⟨H.ls, A⟩
 clear A
 intro t fr h3 hK
 obtain ⟨H, A⟩ := hK
 refine BF id (Ak 21 H hm (fun hb hm H => ?_) fun hb hm H => ?_)
 ·refine AH 2 (AP 2 [(6, .str ([] : List UInt8)), (7, .bool false)] H fun fr H => AY ?_)
  obtain ⟨rfl, rfl⟩ := C9 hm
  exact ⟨.inl rfl, _, rH H, rfl, A⟩
 refine Cc 7 id ?_
 obtain ⟨⟨x5, x6⟩, hx, hm⟩ := bind_some hm
 obtain ⟨v1, h5, hr, rfl, A1⟩ := Nz (av := [.str p0]) hx (A.cut 0)
 replace A := A.E8 A1
 refine BD 1 [] 24 hr H fun fr t H => ?_
 refine Bn 5 [(8, .str x5)] 3 H fun fr H => AP 3 [(6, .str x5), (7, .bool true)] H fun fr H => AY ?_
 obtain ⟨rfl, rfl⟩ := C9 hm
 exact ⟨.inl rfl, _, rH H, rfl, A⟩
def DJ (p0 : BA) (p1 : List UInt8) : Option ((List ((List UInt8) × Bool))) :=
 (EV p1).bind fun x1 => (Et x1).bind fun x2 => some (It p0.DD x2 true)
theorem HU {p0 p1 bp0 bp0_0 u1} (hm : DJ p0 p1 = some u1) (A : HH g h [.obj bp0 (.cells none 2 [.map (some bp0_0)]), .obj bp0_0 (.map 2 (BZ (fun k : List UInt8 => .str k) (fun v : Bool => .bool v) p0.DD))] F) (hc : BH (cfg.still 47) av = [.ptr (some (bp0, 0)), .str p1] := by kernel_rfl) : ∃ v h', BN cfg g h 47 av v h' ∧ v = .tuple [] ∧ HH g h' [.obj bp0 (.cells none 2 [.map (some bp0_0)]), .obj bp0_0 (.map 2 (BZ (fun k : List UInt8 => .str k) (fun v : Bool => .bool v) u1))] F := by
 refine Dr 11 [] hc ?_
 clear hc
 unfold DJ at hm
 refine bg 11 [(0, .ptr (some (bp0, 0))), (1, .str p1)] fun fr H => ?_
 refine Kg 0 8 [(0, []), (1, []), (2, []), (3, []), (4, []), (5, [3]), (6, [3]), (7, [])] ?_
 refine AG 3 [(6, .ptr (some (bp0, 0)))] H fun fr H => CO 7 (.map (some bp0_0)) h [(3, bp0)] (g.Bm) H (fun fr => .of (DU (by kernel_rfl) (A.l1 0 0))) (fun fr H => ?_)
 refine AG 1 [(8, .str p1)] H fun fr H => ?_
 have A1 := A.G4 0 (pr := [bp0]) (.cons 0 rfl (by simp [Ck.ids]) .nil)
 obtain ⟨x1, hx, hm⟩ := bind_some hm
 obtain ⟨v1, h1, hr, rfl, A1⟩ := HC (av := [.str p1]) hx A1
 replace A := A.WQ A1
 refine CO 9 (vs eS x1) h1 [(3, bp0)] (bp0 :: g.Bm) H (fun fr => Steps.call (by kernel_rfl) hr) (fun fr H => ?_)
 have A1 := A.G4 0 (pr := [bp0]) (.cons 0 rfl (by simp [Ck.ids]) .nil)
 obtain ⟨x2, hx, hm⟩ := bind_some hm
 obtain ⟨v1, h2, hr, rfl, A1⟩ := Hi (av := [vs eS x1]) hx A1
 replace A := A.WQ A1
 refine CO 10 (.str x2) h2 [(3, bp0)] (bp0 :: g.Bm) H (fun fr => Steps.call (by kernel_rfl) hr) (fun fr H => ?_)
 obtain ⟨h3, hx, A1⟩ := HH.WB (kt := 9) (et := 4) (ek := fun k : List UInt8 => .str k) (ev := fun v : Bool => .bool v) (Rg (by kernel_rfl)) A 1 rfl (t := 115) (by kernel_rfl) x2 true
 replace A : HH g h3 [_, .obj bp0_0 (.map 2 (BZ (fun k : List UInt8 => .str k) (fun v : Bool => .bool v) (It p0.DD x2 true)))] F := A1
 refine I7 (.tuple []) h3 [(3, bp0)] (g.Bm) H (fun fr => .of (Ty (by kernel_rfl) hx)) (fun fr H => ?_)
 refine at_nil ?_
 obtain rfl := Ag hm
 refine ⟨.inr rfl, .tuple [], rH H, ?_⟩
 exact ⟨rfl, A⟩
def Ho (p0 : List AK) (s : (List ((List UInt8) × Bool)) × Int) : Option (((List ((List UInt8) × Bool)) × Int) ⊕ (((List ((List UInt8) × Bool))))) :=
 match s with
 | (x2, x3) => Af (decide (x3 < (p0.length : Int))) (((GP p0 x3).bind fun x6 => (FQ x6.Name x6.Kind x6.Data).bind fun (x7, x8) => Af x8 ((DJ (⟨x2⟩ : BA) x7).bind fun x9 => some x9) (some x2) : Option (((List ((List UInt8) × Bool))))).bind fun x5 => some (.inl (x5, IntKind.i64.wrap (x3 + 1)))) (some (.inr x2))
def HI (p0 : List AK) : Option (BA) :=
 (F6).bind fun x1w1 => (loop (Ho p0) (x1w1.DD, (0 : Int))).bind fun x4 => some (⟨x4⟩ : BA)
theorem MD {p0 rp0 q00} (hm : HI p0 = some q00) (A : HH g h [.AL rp0 44 (AL AA p0)] F) (hc : BH (cfg.still 23) av = [AF rp0 p0.length] := by kernel_rfl) : ∃ v h', BN cfg g h 23 av v h' ∧ ∃ (bq00 : Nat) (bq00_0 : Nat), v = .ptr (some (bq00, 0)) ∧ HH g h' [.obj bq00 (.cells none 2 [.map (some bq00_0)]), .obj bq00_0 (.map 2 (BZ (fun k : List UInt8 => .str k) (fun v : Bool => .bool v) q00.DD)), .AL rp0 44 (AL AA p0)] F := by
 refine Dr 31 [.tmp 2] hc ?_
 clear hc
 unfold HI at hm
 refine bg 31 [(0, AF rp0 p0.length)] fun fr H => ?_
 refine AH 1 (Bn 1 [] 2 H fun fr H => ?_)
 obtain ⟨x1w1, hx, hm⟩ := bind_some hm
 obtain ⟨v1, h1, hr, bx1w1, bx1w1_0, rfl, A1⟩ := Ke (av := []) hx (A.cut 0)
 replace A := A.XX A1
 refine A8 8 hr H fun fr t H => ?_
 refine AP 1 [(3, .ptr (some (bx1w1, 0)))] H fun fr H => AV (AH 3 (AP 3 [(9, AF rp0 p0.length), (10, Ai (p0.length : Int)), (11, Ai 0)] H fun fr H => Aa (id := 0) (by kernel_rfl) ?_))
 obtain ⟨o1, ho, hm⟩ := bind_some hm
 refine BG (Q' := fun e fr' h' => (∃ x4, e = .exit 0 ∧ x4 = o1 ∧ Has fr' 31 [(3, .ptr (some (bx1w1, 0)))] ∧ HH g h' [.obj bx1w1 (.cells none 2 [.map (some bx1w1_0)]), .obj bx1w1_0 (.map 2 (BZ (fun k : List UInt8 => .str k) (fun v : Bool => .bool v) x4)), .AL rp0 44 (AL AA p0)] F) ∨ False) ?_ ?_
 ·refine Bv (by kernel_rfl) (fun (s : (List ((List UInt8) × Bool)) × Int) fr' h' => ∃ x2 x3, (x2, x3) = s ∧ Has fr' 31 [(3, .ptr (some (bx1w1, 0))), (9, AF rp0 p0.length), (10, Ai (p0.length : Int)), (11, Ai x3)] ∧ HH g h' [.obj bx1w1 (.cells none 2 [.map (some bx1w1_0)]), .obj bx1w1_0 (.map 2 (BZ (fun k : List UInt8 => .str k) (fun v : Bool => .bool v) x2)), .AL rp0 44 (AL AA p0)] F) ho ⟨_, _, rfl, H.ls, A⟩ ?_
  clear ho hm H A
  intro s q fr h2 hI hm
  obtain ⟨x2, x3, rfl, H, A⟩ := hI
  unfold Ho at hm
  refine AH 1 (AP 1 [(12, .bool (decide (x3 < (p0.length : Int))))] H fun fr H => AV (Ak 12 H hm (fun hb hm H => ?_) fun hb hm H => ?_))
  ·refine Br id (AV ?_)
   obtain ⟨o2, ho, hm⟩ := bind_some hm
   refine BG (Q' := fun e fr' h' => (∃ x5, e = .normal ∧ x5 = o2 ∧ Has fr' 31 [(3, .ptr (some (bx1w1, 0))), (9, AF rp0 p0.length), (10, Ai (p0.length : Int)), (11, Ai x3)] ∧ HH g h' [.obj bx1w1 (.cells none 2 [.map (some bx1w1_0)]), .obj bx1w1_0 (.map 2 (BZ (fun k : List UInt8 => .str k) (fun v : Bool => .bool v) x5)), .AL rp0 44 (AL AA p0)] F) ∨ False) ?_ ?_
   ·replace hm := ho
    clear ho
    refine Aa (id := 1) (by kernel_rfl) ?_
    refine AH 4 ?_
    obtain ⟨x6, hx, hm⟩ := bind_some hm
    obtain ⟨i1, er1, _, hx, hq1⟩ := HH.Ll BL (by decide) A 2 (xs := p0) rfl hx
    refine As 13 (.ptr (some (i1, x3.toNat * 14))) h2 H (fun fr => .of (D7 (s := DP rp0 p0.length) (by kernel_rfl) hx)) fun fr t H => ?_
    refine As 14 _ _ H (fun fr => .of (B5 (by kernel_rfl) (IS BL (HH.row A 2 rfl er1) hq1 0 14 (Nat.le_of_ble_eq_true rfl)))) fun fr t H => ?_
    obtain ⟨h3, e1, A⟩ := A.pu (.cells none 2 [.str ([] : List UInt8), .str ([] : List UInt8), Ab 0, Ai 0, Ai 0, Ai 0, .str ([] : List UInt8), .str ([] : List UInt8), Ai 0, Ai 0, Ai 0, Ai 0, .slice none 0, .str ([] : List UInt8)])
    refine A7 5 (.ptr (some (h2.size, 0))) e1 H fun fr t H => ?_
    obtain ⟨h4, hx, A⟩ := A.s0 0 (AA x6) [_, _, _, _, _, _, _, _, _, _, _, _, _, _]
    refine FX hx H fun fr t H => ?_
    refine Cb 12 id (AZ 1 [] 17 0 0 A H fun fr t H => ?_)
    refine AZ 1 [] 19 0 2 A H fun fr t H => ?_
    refine AZ 1 [] 21 0 13 A H fun fr t H => ?_
    obtain ⟨⟨x7, x8⟩, hx, hm⟩ := bind_some hm
    obtain ⟨v1, h5, hr, rfl, A1⟩ := Kf (av := [.str x6.Name, Ab x6.Kind, .str x6.Data]) hx (A.cut 0)
    replace A := A.E8 A1
    refine A8 22 hr H fun fr t H => ?_
    refine Bn 5 [(6, .str x7), (7, .bool x8)] 1 H fun fr H => AP 1 [(25, .bool x8)] H fun fr H => Ak 25 H hm (fun hb hm H => ?_) fun hb hm H => ?_
    ·refine ED 3 ?_
     replace A := A.k4 1 2 0 3
     obtain ⟨x9, hx, hm⟩ := bind_some hm
     obtain ⟨v1, h6, hr, rfl, A1⟩ := HU (av := [.ptr (some (bx1w1, 0)), .str x7]) hx (A.cut 2)
     replace A := A.g22 A1
     refine Q7 2 [] hr H fun fr t H => ?_
     refine at_nil ?_
     replace A := A.k3 0 1 3
     exact .inl ⟨_, rfl, Ag hm, H.ls, A⟩
    refine HG ?_
    replace A := A.k3 1 2 3
    exact .inl ⟨_, rfl, Ag hm, H.ls, A⟩
   clear ho
   clear A
   intro e fr h7 hQ
   rcases hQ with ⟨x5, rfl, rfl, H, A⟩ | hF
   ·show AW _ _ _ _ _ _ _
    refine ED 2 (Bk 2 [(3, .ptr (some (bx1w1, 0))), (9, AF rp0 p0.length), (10, Ai (p0.length : Int)), (11, Ai (IntKind.i64.wrap (x3 + 1)))] H fun fr H => at_nil ?_)
    exact nx hm ⟨_, _, rfl, H.ls, A⟩
   exact hF.elim
  refine Bh (i := 0) (by kernel_rfl) ?_
  exact nr hm fun e => .inl ⟨_, rfl, e, H.ls, A⟩
 clear ho
 clear A
 intro e fr h8 hQ
 rcases hQ with ⟨x4, rfl, rfl, H, A⟩ | hF
 ·show AW _ _ _ _ _ _ _
  refine AH 2 (AP 2 [(2, .ptr (some (bx1w1, 0)))] H fun fr H => AY ?_)
  obtain rfl := Ag hm
  exact ⟨.inl rfl, _, rH H, _, _, rfl, A⟩
 exact hF.elim
def Ik (p0 : List UInt8) : Option ((List UInt8)) :=
 (Ce p0).bind fun x1 => Af (!(x1 == ([] : List UInt8))) (some x1) (some p0)
theorem Nx {p0 q0} (hm : Ik p0 = some q0) (A : HH g h [] F) (hc : BH (cfg.still 199) av = [.str p0] := by kernel_rfl) : ∃ v h', BN cfg g h 199 av v h' ∧ v = .str q0 ∧ HH g h' [] F := by
 refine Dr 10 [.tmp 2] hc ?_
 clear hc
 unfold Ik at hm
 refine bg 10 [(0, .str p0)] fun fr H => ?_
 refine AH 1 (AP 1 [] H fun fr H => AV (AH 3 ?_))
 obtain ⟨x1, hx, hm⟩ := bind_some hm
 obtain ⟨v1, h1, hr, rfl, A1⟩ := GU (av := [.str p0, .str ([47] : List UInt8)]) hx (A.cut 0)
 replace A := A.E8 A1
 refine BD 1 [] 5 hr H fun fr t H => ?_
 refine Bn 1 [(3, .str x1)] 2 H fun fr H => AP 2 [(7, .bool (!(x1 == ([] : List UInt8))))] H fun fr H => Ak 7 H hm (fun hb hm H => ?_) fun hb hm H => ?_
 ·refine AH 2 (AP 2 [(2, .str x1)] H fun fr H => AY ?_)
  obtain rfl := Ag hm
  exact ⟨.inl rfl, _, rH H, rfl, A⟩
 refine Cc 2 id (AP 2 [(2, .str p0)] H fun fr H => AY ?_)
 obtain rfl := Ag hm
 exact ⟨.inl rfl, _, rH H, rfl, A⟩
def FA (p0 : Al) (p1 : List UInt8) : Option (Al × (List UInt8)) :=
 some (p0, p1)
theorem I3 {p0 p1 q0_10 q0_11} (hm : FA p0 p1 = some (q0_10, q0_11)) (A : HH g h [] F) (hc : BH (cfg.still 200) av = [.BC (AB p0), .str p1] := by kernel_rfl) : ∃ v h', BN cfg g h 200 av v h' ∧ ∃ (bq0_10 : Nat) (bq0_11 : Nat), v = .func (.func 263) [] [.ptr (some (bq0_10, 0)), .ptr (some (bq0_11, 0))] ∧ HH g h' [.obj bq0_10 (.cells none 2 [.BC (AB q0_10)]), .obj bq0_11 (.cells none 2 [.str q0_11])] F := by
 refine Dr 6 [.tmp 4] hc ?_
 clear hc
 unfold FA at hm
 refine bg 6 [(0, .BC (AB p0)), (1, .str p1)] fun fr H => ?_
 refine AH 3 ?_
 obtain ⟨h1, e1, A⟩ := A.pu (.cells none 2 [.BC (AB p0)])
 refine A7 2 (.ptr (some (h.size, 0))) e1 H fun fr t H => ?_
 obtain ⟨h2, e2, A⟩ := A.pu (.cells none 2 [.str p1])
 refine A7 3 (.ptr (some (h1.size, 0))) e2 H fun fr t H => ?_
 refine Bn 1 [] 2 H fun fr H => AP 2 [(4, .func (.func 263) [] [.ptr (some (h.size, 0)), .ptr (some (h1.size, 0))])] H fun fr H => AY ?_
 obtain ⟨rfl, rfl⟩ := C9 hm
 refine ⟨.inl rfl, .func (.func 263) [] [.ptr (some (h.size, 0)), .ptr (some (h1.size, 0))], rH H, ?_⟩
 replace A : HH g h2 [.obj h.size (.cells none 2 [.BC (AB p0)]), .obj h1.size (.cells none 2 [.str p1])] F := ((A.front 0 rfl).front 1 rfl)
 exact ⟨h.size, h1.size, rfl, A⟩
def Ea {SY RY : Type} (Y : SY → Int → Option (SY ⊕ RY)) (p2 : List UInt8) (s : Int × (SY ⊕ RY)) : Option ((Int × (SY ⊕ RY)) ⊕ (((SY ⊕ RY)) ⊕ ((SY ⊕ RY)))) :=
 match s with
 | (x2, y2) => Af (decide (x2 < (p2.length : Int))) ((P1 p2 x2).bind fun x3 => (Af (x3 == 47) ((SI Y y2 (IntKind.i64.wrap (x2 + 1))).bind fun (x5, y6) => some (!x5, y6)) (some (false, y2)) : Option (Bool × (SY ⊕ RY))).bind fun (x4, y5) => Af x4 (some (.inr (.inr y5))) (some (.inl (IntKind.i64.wrap (x2 + 1), y5)))) (some (.inr (.inl y2)))
def Dd {SY RY : Type} (Y : SY → Int → Option (SY ⊕ RY)) (y : SY ⊕ RY) (p1 : Al) (p2 : List UInt8) : Option ((SY ⊕ RY)) :=
 (SI Y y (0 : Int)).bind fun (x1, y1) => Af ((!x1) || p1.r_.CD) (some y1) ((loop (Ea Y p2) ((0 : Int), y1)).bind fun o1 => (match o1 with | .inl y3 => some y3 | .inr y4 => some y4))
theorem HE {SY RY : Type} {R : SY ⊕ RY → List Ck → Prop} {Y : SY → Int → Option (SY ⊕ RY)} {y : SY ⊕ RY} {p1 p2 l bp1 bp2} {yq : SY ⊕ RY} (hm : Dd Y y p1 p2 = some yq) (hc : BH (cfg.still 263) av = [.KJ l, .ptr (some (bp1, 0)), .ptr (some (bp2, 0))]) (hYR : YR cfg g l (fun x => [Ai x]) Y R) (B : R y F) (A : HH g h [.obj bp1 (.cells none 2 [.BC (AB p1)]), .obj bp2 (.cells none 2 [.str p2])] F) : ∃ v h', BN cfg g h 263 av v h' ∧ v = .tuple [] ∧ ∃ F, R yq F ∧ HH g h' [.obj bp1 (.cells none 2 [.BC (AB p1)]), .obj bp2 (.cells none 2 [.str p2])] F := by
 refine Dr 32 [] hc ?_
 clear hc
 unfold Dd at hm
 refine bg 32 [(0, .KJ l), (1, .ptr (some (bp1, 0))), (2, .ptr (some (bp2, 0)))] fun fr H => ?_
 refine AV (AH 10 ?_)
 obtain ⟨⟨x1, y1⟩, hx, hm⟩ := bind_some hm
 obtain ⟨h1, F, hr, B, A⟩ := hYR.SI (pr := []) .nil A B hx
 refine Ax 1 [] 6 (.bool x1) h1 H (fun fr => Steps.round (by kernel_rfl) hr) fun fr t H => ?_
 refine AG 2 [(8, .bool (!x1))] H fun fr H => Aq 6 (fun fr' h' => h1 = h' ∧ Has fr' 32 [(0, .KJ l), (2, .ptr (some (bp2, 0))), (14, .bool ((!x1) || p1.r_.CD))]) ?_ ?_
 ·cases hb : (!x1 : Bool) with
  | true =>
   replace H := H.kn 8 hb
   exact AG 6 [(14, .bool true)] H fun fr H => Ap H hb
  | false =>
   replace H := H.kn 8 hb
   refine Ek 9 0 0 A H fun fr t H => ?_
   refine Ax 3 [] 13 (.bool p1.r_.CD) h1 H (fun fr => .of (IQ (by kernel_rfl))) fun fr t H => ?_
   exact AG 1 [(14, .bool p1.r_.CD)] H fun fr H => Ap H hb
 intro t fr h' hK
 obtain ⟨e, H⟩ := hK
 subst e
 refine BF id (Ak 14 H hm (fun hb hm H => ?_) fun hb hm H => ?_)
 ·refine AY ?_
  obtain rfl := Ag hm
  exact ⟨.inl rfl, _, rH H, rfl, ⟨F, B, A⟩⟩
 refine Cc 3 id (Ek 15 1 0 A H fun fr t H => ?_)
 refine AP 2 [(16, Ai (p2.length : Int)), (17, Ai 0)] H fun fr H => Aa (id := 0) (by kernel_rfl) ?_
 obtain ⟨o1, ho, hm⟩ := bind_some hm
 refine BG (Q' := fun e fr' h' => (∃ (y3 : SY ⊕ RY), e = .exit 0 ∧ .inl y3 = o1 ∧ Has fr' 32 [] ∧ ∃ F, R y3 F ∧ HH g h' [.obj bp1 (.cells none 2 [.BC (AB p1)]), .obj bp2 (.cells none 2 [.str p2])] F) ∨ (∃ (y4 : SY ⊕ RY), e = .ret ∧ .inr y4 = o1 ∧ Has fr' 32 [] ∧ ∃ F, R y4 F ∧ HH g h' [.obj bp1 (.cells none 2 [.BC (AB p1)]), .obj bp2 (.cells none 2 [.str p2])] F) ∨ False) ?_ ?_
 ·refine Bv (by kernel_rfl) (fun (s : Int × (SY ⊕ RY)) fr' h' => ∃ x2, ∃ (y2 : SY ⊕ RY), (x2, y2) = s ∧ Has fr' 32 [(0, .KJ l), (2, .ptr (some (bp2, 0))), (16, Ai (p2.length : Int)), (17, Ai x2)] ∧ ∃ F, R y2 F ∧ HH g h' [.obj bp1 (.cells none 2 [.BC (AB p1)]), .obj bp2 (.cells none 2 [.str p2])] F) ho ⟨(0 : Int), y1, rfl, H.ls, ⟨F, B, A⟩⟩ ?_
  clear ho hm H A
  intro s q fr h2 hI hm
  obtain ⟨x2, y2, rfl, H, ⟨F, B, A⟩⟩ := hI
  unfold Ea at hm
  refine AH 1 (AP 1 [(18, .bool (decide (x2 < (p2.length : Int))))] H fun fr H => AV (Ak 18 H hm (fun hb hm H => ?_) fun hb hm H => ?_))
  ·refine Br id (AV (Aa (id := 1) (by kernel_rfl) ?_))
   refine AH 2 (Bn 2 [(4, Ai x2)] 11 H fun fr H => Ek 20 1 0 A H fun fr t H => ?_)
   obtain ⟨x3, hx, hm⟩ := bind_some hm
   refine Ax 1 [] 22 (Ab x3) h2 H (fun fr => .of (Iy (by kernel_rfl) hx)) fun fr t H => ?_
   refine AG 2 [(24, .bool (x3 == 47))] H fun fr H => ?_
   obtain ⟨⟨x4, y5⟩, ho, hm⟩ := bind_some hm
   refine Aq 6 (fun fr' h' => Has fr' 32 [(0, .KJ l), (2, .ptr (some (bp2, 0))), (16, Ai (p2.length : Int)), (17, Ai x2), (30, .bool x4)] ∧ ∃ F, R y5 F ∧ HH g h' [.obj bp1 (.cells none 2 [.BC (AB p1)]), .obj bp2 (.cells none 2 [.str p2])] F) ?_ ?_
   ·rcases Ac ho with ⟨hb, hm⟩ | ⟨hb, hm⟩
    ·replace H := H.kn 24 hb
     obtain ⟨⟨x5, y6⟩, hx, hm⟩ := bind_some hm
     obtain ⟨h4, F, hr, B, A⟩ := hYR.SI (pr := []) .nil A B hx
     refine Ax 3 [] 28 (.bool x5) h4 H (fun fr => Steps.round (by kernel_rfl) hr) fun fr t H => ?_
     refine AG 2 [(30, .bool (!x5))] H fun fr H => ?_
     obtain ⟨rfl, rfl⟩ := C9 hm
     exact at_nil ⟨H.ls, ⟨F, B, A⟩⟩
    replace H := H.kn 24 hb
    refine AG 6 [(30, .bool false)] H fun fr H => ?_
    obtain ⟨rfl, rfl⟩ := C9 hm
    exact at_nil ⟨H.ls, ⟨F, B, A⟩⟩
   clear A
   intro t fr h3 hK
   obtain ⟨H, ⟨F, B, A⟩⟩ := hK
   refine BF id (Ak 30 H hm (fun hb hm H => ?_) fun hb hm H => ?_)
   ·refine AY ?_
    exact nr hm fun e => Or.inr (.inl ⟨y5, rfl, e, H.ls, ⟨F, B, A⟩⟩)
   refine Fg 2 id (Bk 2 [(0, .KJ l), (2, .ptr (some (bp2, 0))), (16, Ai (p2.length : Int)), (17, Ai (IntKind.i64.wrap (x2 + 1)))] H fun fr H => at_nil ?_)
   exact nx hm ⟨IntKind.i64.wrap (x2 + 1), y5, rfl, H.ls, ⟨F, B, A⟩⟩
  refine Bh (i := 0) (by kernel_rfl) ?_
  exact nr hm fun e => .inl ⟨y2, rfl, e, H.ls, ⟨F, B, A⟩⟩
 clear ho
 clear A
 intro e fr h5 hQ
 rcases hQ with ⟨y3, rfl, rfl, H, ⟨F, B, A⟩⟩ | ⟨y4, rfl, rfl, H, ⟨F, B, A⟩⟩ | hF
 ·obtain rfl := Ag hm
  refine ⟨.inr rfl, .tuple [], rH H, ?_⟩
  exact ⟨rfl, ⟨F, B, A⟩⟩
 ·obtain rfl := Ag hm
  exact ⟨.inl rfl, _, rH H, rfl, ⟨F, B, A⟩⟩
 exact hF.elim
def Ec (p0 : List UInt8) : Option (Bool) :=
 some (!(p0 == p0))
theorem IJ {p0 q0} (hm : Ec p0 = some q0) (A : HH g h [] F) (hc : BH (cfg.still 278) av = [.str p0] := by kernel_rfl) : ∃ v h', BN cfg g h 278 av v h' ∧ v = .bool q0 ∧ HH g h' [] F := by
 refine Dr 6 [.tmp 2] hc ?_
 clear hc
 unfold Ec at hm
 refine bg 6 [(0, .str p0)] fun fr H => ?_
 refine AH 1 (Bn 1 [] 4 H fun fr H => AP 4 [(2, .bool (!(p0 == p0)))] H fun fr H => AY ?_)
 obtain rfl := Ag hm
 exact ⟨.inl rfl, _, rH H, rfl, A⟩
end
end Go.Av.L
