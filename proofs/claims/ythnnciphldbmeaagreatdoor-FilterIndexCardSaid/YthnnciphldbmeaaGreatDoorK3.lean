/-
 Models of functions, and that the abstract run tells them. Written by lift2.py.
-/
import Derived.Test.YthnnciphldbmeaaGreatDoorKCfg
import Derived.Test.YthnnciphldbmeaaGreatDoorK0
import Derived.Test.YthnnciphldbmeaaGreatDoorK1
import Derived.Test.YthnnciphldbmeaaGreatDoorK2
namespace Go.Av.L
open Go.Av Go.Lib
set_option maxRecDepth 10000
set_option maxHeartbeats 4000000
set_option linter.unusedVariables false
set_option linter.unusedSimpArgs false
variable {g : Gd} {h : AH} {F : List Ck} {av : List AA}
noncomputable section
def JM (p0 : Int) (p1 : Int) : Option ((Option Bt) × Int) :=
 Aa ((((decide (p0 < 0)) || (decide (p0 > 9007199254740991))) || (decide (p1 < 1))) || (decide (p1 > 257))) (some (none, (6 : Int))) (some (some (⟨p0, p1, R0⟩ : Bt), (0 : Int)))
theorem Mo {p0 p1 o0 q1} (hm : JM p0 p1 = some (o0, q1)) (A : HH g h [] F) (hc : BF (cfg.still 33) av = [Ai p0, Ai p1] := by kernel_rfl) : ∃ v h', BL cfg g h 33 av v h' ∧ ((∃ (bq00 : Nat) (q00 : Bt), o0 = some q00 ∧ v = .tuple [.ptr (some (bq00, 0)), Ai q1] ∧ HH g h' [.obj bq00 (.cells none 2 ([Ai q00.n_, Ai q00.An] ++ (Cj 257 (AA.int .i64) q00.BI ++ [])))] F) ∨ (o0 = none ∧ v = .tuple [.ptr none, Ai q1] ∧ HH g h' [] F)) := by
 refine Dr 24 [.tmp 4, .tmp 5] hc ?_
 clear hc
 unfold JM at hm
 refine bg 24 [(0, Ai p0), (1, Ai p1)] fun fr H => ?_
 refine AG 2 (AO 2 [] H fun fr H => AQ (AG 14 (AK 3 [(8, .bool (decide (p0 < 0)))] H fun fr H => A9 3 (fun fr' h' => h = h' ∧ Has fr' 24 [(0, Ai p0), (1, Ai p1), (11, .bool ((decide (p0 < 0)) || (decide (p0 > 9007199254740991))))]) ?_ ?_)))
 ·cases hb : (decide (p0 < 0) : Bool) with
  | true =>
   replace H := H.kn 8 hb
   exact AK 3 [(11, .bool true)] H fun fr H => BH H hb
  | false =>
   replace H := H.kn 8 hb
   exact AK 3 [(11, .bool (decide (p0 > 9007199254740991)))] H fun fr H => BH H hb
 intro t fr h' hK
 obtain ⟨e, H⟩ := hK
 subst e
 refine AK 1 [(12, .bool ((decide (p0 < 0)) || (decide (p0 > 9007199254740991))))] H fun fr H => A9 3 (fun fr' h' => h = h' ∧ Has fr' 24 [(0, Ai p0), (1, Ai p1), (15, .bool (((decide (p0 < 0)) || (decide (p0 > 9007199254740991))) || (decide (p1 < 1))))]) ?_ ?_
 ·cases hb : ((decide (p0 < 0)) || (decide (p0 > 9007199254740991)) : Bool) with
  | true =>
   replace H := H.kn 12 hb
   exact AK 3 [(15, .bool true)] H fun fr H => BH H hb
  | false =>
   replace H := H.kn 12 hb
   exact AK 3 [(15, .bool (decide (p1 < 1)))] H fun fr H => BH H hb
 intro t fr h' hK
 obtain ⟨e, H⟩ := hK
 subst e
 refine AK 1 [(16, .bool (((decide (p0 < 0)) || (decide (p0 > 9007199254740991))) || (decide (p1 < 1))))] H fun fr H => A9 3 (fun fr' h' => h = h' ∧ Has fr' 24 [(0, Ai p0), (1, Ai p1), (19, .bool ((((decide (p0 < 0)) || (decide (p0 > 9007199254740991))) || (decide (p1 < 1))) || (decide (p1 > 257))))]) ?_ ?_
 ·cases hb : (((decide (p0 < 0)) || (decide (p0 > 9007199254740991))) || (decide (p1 < 1)) : Bool) with
  | true =>
   replace H := H.kn 16 hb
   exact AK 3 [(19, .bool true)] H fun fr H => BH H hb
  | false =>
   replace H := H.kn 16 hb
   exact AK 3 [(19, .bool (decide (p1 > 257)))] H fun fr H => BH H hb
 intro t fr h' hK
 obtain ⟨e, H⟩ := hK
 subst e
 refine BJ id (Ad 19 H hm (fun hb hm H => ?_) fun hb hm H => ?_)
 ·refine AG 2 (AO 2 [(4, .ptr none), (5, Ai 6)] H fun fr H => AU ?_)
  obtain ⟨rfl, rfl⟩ := Cw hm
  refine ⟨.inl rfl, .tuple [.ptr none, Ai 6], rH H, ?_⟩
  exact .inr ⟨rfl, rfl, A⟩
 refine Ce 6 id ?_
 obtain ⟨h1, e1, A⟩ := A.pu (.cells none 2 ([Ai p0, Ai p1] ++ (Cj 257 (AA.int .i64) R0 ++ [])))
 refine KB 3 [] 23 (.ptr (some (h.size, 0))) e1 H fun fr t H => ?_
 refine AO 2 [(4, .ptr (some (h.size, 0))), (5, Ai 0)] H fun fr H => AU ?_
 obtain ⟨rfl, rfl⟩ := Cw hm
 refine ⟨.inl rfl, .tuple [.ptr (some (h.size, 0)), Ai 0], rH H, ?_⟩
 exact .inl ⟨h.size, (⟨p0, p1, R0⟩ : Bt), rfl, rfl, A⟩
def KY (p0 : B1) : Option ((Option Bw) × Int) :=
 (Ij p0).bind fun x1 => Aa (!x1) (some (none, (6 : Int))) (Aa ((decide ((IntKind.i64.wrap ((p0.Ak.length : Int) + (p0.Al.length : Int))) > 256)) || (decide ((p0.Br.length : Int) > 256))) (some (none, (8 : Int))) ((H6 p0).bind fun x2 => (Fj p0.Ak p0.Bl).bind fun (x3, x4) => Aa (x4 != 0) (some (none, x4)) ((Fj p0.Al p0.Bl).bind fun (x5, x6) => Aa (x6 != 0) (some (none, x6)) ((LO x2.Br p0.Bl p0.Name).bind fun (w8, x8, x9) => (match w8 with | some x7w7 => Aa (x9 != 0) (some (none, x9)) ((JM p0.IH (mx (p0.Ak.length : Int) (1 : Int))).bind fun (w12, x11) => (match w12 with | some x10w11 => some (some (⟨x2, x3, x5, x7w7, x10w11⟩ : Bw), x11) | none => none)) | none => Aa (x9 != 0) (some (none, x9)) ((JM p0.IH (mx (p0.Ak.length : Int) (1 : Int))).bind fun (w15, x13) => (match w15 with | some x12w14 => none | none => none)))))))
theorem PS {p0 o0 q1} (hm : KY p0 = some (o0, q1)) (A : HH g h [] F) (hc : BF (cfg.still 8) av = [.agg (AS p0)] := by kernel_rfl) : ∃ v h', BL cfg g h 8 av v h' ∧ ((∃ (bq00 : Nat) (rq00_14 : Option Nat) (rq00_15 : Option Nat) (bq00_16 : Nat) (rq00_16_0 : Option Nat) (bq00_17 : Nat) (q00 : Bw), o0 = some q00 ∧ v = .tuple [.ptr (some (bq00, 0)), Ai q1] ∧ HH g h' [.obj bq00 (.cells none 2 [vs AE q00.c_.Ak, vs AE q00.c_.Al, vs AJ q00.c_.Br, .bool q00.c_.I0, .bool q00.c_.Be, Ai q00.c_.Bv, .bool q00.c_.CR, Ai q00.c_.BK.DF, Ai q00.c_.BK.Bn, Ai q00.c_.IH, Ai q00.c_.CO, Ai q00.c_.Name, Ai q00.c_.Head, Ai q00.c_.Bl, AF rq00_14 q00.AZ.length, AF rq00_15 q00.Ac.length, .ptr (some (bq00_16, 0)), .ptr (some (bq00_17, 0))]), .AI rq00_14 136 (AI (eP AB) q00.AZ), .AI rq00_15 136 (AI (eP AB) q00.Ac), .obj bq00_16 (.cells none 2 [AF rq00_16_0 q00.Af.l_.length, Ai q00.Af.Bd]), .AI rq00_16_0 142 (AI (eP AL) q00.Af.l_), .obj bq00_17 (.cells none 2 ([Ai q00.Am.n_, Ai q00.Am.An] ++ (Cj 257 (AA.int .i64) q00.Am.BI ++ [])))] F) ∨ (o0 = none ∧ v = .tuple [.ptr none, Ai q1] ∧ HH g h' [] F)) := by
 refine Dr 92 [.tmp 2, .tmp 3] hc ?_
 clear hc
 unfold KY at hm
 refine bg 92 [(0, .agg (AS p0))] fun fr H => ?_
 refine AG 3 ?_
 obtain ⟨h1, e1, A⟩ := A.pu (.cells none 2 (AS p0))
 refine BB 1 (.ptr (some (h.size, 0))) e1 H fun fr t H => ?_
 refine AO 2 [] H fun fr H => AQ (AV (id := 0) (by kernel_rfl) ?_)
 refine AG 4 (Aq 7 _ _ H (fun fr => .of (CG (by kernel_rfl) (A.HG 0 rfl (o := 0) (n := 14) ⟨Nat.le_of_ble_eq_true rfl, rfl⟩))) fun fr t H => ?_)
 obtain ⟨x1, hx, hm⟩ := bind_some hm
 obtain ⟨v1, h2, hr, rfl, A1⟩ := OA (av := [.agg (AS p0)]) hx (A.cut 0)
 replace A : HH g h2 [.obj h.size (.cells none 2 (AS p0))] F := A.CY (n := 0) A1
 refine BA 8 hr H fun fr t H => ?_
 refine AO 2 [(6, .bool (!x1))] H fun fr H => Ad 6 H hm (fun hb hm H => ?_) fun hb hm H => ?_
 ·refine AG 2 (AO 2 [(2, .ptr none), (3, Ai 6)] H fun fr H => AU ?_)
  obtain ⟨rfl, rfl⟩ := Cw hm
  refine ⟨.inl rfl, .tuple [.ptr none, Ai 6], rH H, ?_⟩
  replace A := A.d0
  exact .inr ⟨rfl, rfl, A⟩
 refine AG 15 (Ag 1 [] 12 0 0 A H fun fr t H => ?_)
 refine Ag 2 [(13, Ai (p0.Ak.length : Int))] 15 0 1 A H fun fr t H => ?_
 refine AK 4 [(19, .bool (decide ((IntKind.i64.wrap ((p0.Ak.length : Int) + (p0.Al.length : Int))) > 256)))] H fun fr H => A9 5 (fun fr' h' => h2 = h' ∧ Has fr' 92 [(1, .ptr (some (h.size, 0))), (24, .bool ((decide ((IntKind.i64.wrap ((p0.Ak.length : Int) + (p0.Al.length : Int))) > 256)) || (decide ((p0.Br.length : Int) > 256))))]) ?_ ?_
 ·cases hb : (decide ((IntKind.i64.wrap ((p0.Ak.length : Int) + (p0.Al.length : Int))) > 256) : Bool) with
  | true =>
   replace H := H.kn 19 hb
   exact AK 5 [(24, .bool true)] H fun fr H => BH H hb
  | false =>
   replace H := H.kn 19 hb
   refine Ag 1 [] 21 0 2 A H fun fr t H => ?_
   exact AK 3 [(24, .bool (decide ((p0.Br.length : Int) > 256)))] H fun fr H => BH H hb
 intro t fr h' hK
 obtain ⟨e, H⟩ := hK
 subst e
 refine AO 1 [(10, .bool ((decide ((IntKind.i64.wrap ((p0.Ak.length : Int) + (p0.Al.length : Int))) > 256)) || (decide ((p0.Br.length : Int) > 256))))] H fun fr H => Ad 10 H hm (fun hb hm H => ?_) fun hb hm H => ?_
 ·refine AG 2 (AO 2 [(2, .ptr none), (3, Ai 8)] H fun fr H => AU ?_)
  obtain ⟨rfl, rfl⟩ := Cw hm
  refine ⟨.inl rfl, .tuple [.ptr none, Ai 8], rH H, ?_⟩
  replace A := A.d0
  exact .inr ⟨rfl, rfl, A⟩
 refine Ce 5 id (Aq 25 _ _ H (fun fr => .of (CG (by kernel_rfl) (A.HG 0 rfl (o := 0) (n := 14) ⟨Nat.le_of_ble_eq_true rfl, rfl⟩))) fun fr t H => ?_)
 obtain ⟨x2, hx, hm⟩ := bind_some hm
 obtain ⟨v1, h3, hr, rfl, A1⟩ := Nf (av := [.agg (AS p0)]) hx (A.cut 0)
 replace A := A.EX A1
 refine BA 26 hr H fun fr t H => ?_
 obtain ⟨h4, e2, A⟩ := A.pu (.cells none 2 [vs AE x2.Ak, vs AE x2.Al, vs AJ x2.Br, .bool x2.I0, .bool x2.Be, Ai x2.Bv, .bool x2.CR, Ai x2.BK.DF, Ai x2.BK.Bn, Ai x2.IH, Ai x2.CO, Ai x2.Name, Ai x2.Head, Ai x2.Bl, .slice none 0, .slice none 0, .ptr none, .ptr none])
 refine KB 1 [] 28 (.ptr (some (h3.size, 0))) e2 H fun fr t H => ?_
 refine Bc 1 [(4, .ptr (some (h3.size, 0)))] 1 H fun fr H => AO 1 [] H fun fr H => AQ (AG 13 (Ag 2 [(30, .ptr (some (h3.size, 0)))] 32 1 0 A H fun fr t H => ?_))
 refine Ag 1 [] 34 1 13 A H fun fr t H => ?_
 obtain ⟨⟨x3, x4⟩, hx, hm⟩ := bind_some hm
 obtain ⟨v1, h5, hr, rqw3, rfl, A1⟩ := Ig (av := [vs AE p0.Ak, Ai p0.Bl]) hx (A.cut 0)
 replace A : HH g h5 [.AI rqw3 136 (AI (eP AB) x3), .obj h3.size (.cells none 2 [vs AE x2.Ak, vs AE x2.Al, vs AJ x2.Br, .bool x2.I0, .bool x2.Be, Ai x2.Bv, .bool x2.CR, Ai x2.BK.DF, Ai x2.BK.Bn, Ai x2.IH, Ai x2.CO, Ai x2.Name, Ai x2.Head, Ai x2.Bl, .slice none 0, .slice none 0, .ptr none, .ptr none]), _] F := A.CY (n := 0) A1
 refine BA 35 hr H fun fr t H => ?_
 obtain ⟨h6, hx, A⟩ := A.s1 14 [AF rqw3 x3.length] [_, _, _, _, _, _, _, _, _, _, _, _, _, _, _, _, _, _]
 refine FJ 5 [(37, Ai x4)] hx H fun fr t H => ?_
 refine Bc 1 [(5, Ai x4)] 2 H fun fr H => AO 2 [(41, .bool (x4 != 0))] H fun fr H => Ad 41 H hm (fun hb hm H => ?_) fun hb hm H => ?_
 ·refine AG 3 (AO 3 [(2, .ptr none), (3, Ai x4)] H fun fr H => AU ?_)
  obtain ⟨rfl, rfl⟩ := Cw hm
  refine ⟨.inl rfl, .tuple [.ptr none, Ai x4], rH H, ?_⟩
  replace A := A.d0
  exact .inr ⟨rfl, rfl, A⟩
 refine Bf id (AQ (AG 13 (Ag 2 [(44, .ptr (some (h3.size, 0)))] 46 2 1 A H fun fr t H => ?_)))
 refine Ag 1 [] 48 2 13 A H fun fr t H => ?_
 obtain ⟨⟨x5, x6⟩, hx, hm⟩ := bind_some hm
 obtain ⟨v1, h7, hr, rqw5, rfl, A1⟩ := Ig (av := [vs AE p0.Al, Ai p0.Bl]) hx (A.cut 0)
 replace A := A.YL A1
 refine BA 49 hr H fun fr t H => ?_
 obtain ⟨h8, hx, A⟩ := A.s2 15 [AF rqw5 x5.length] [_, _, _, _, _, _, _, _, _, _, _, _, _, _, _, _, _, _]
 refine FJ 5 [(51, Ai x6)] hx H fun fr t H => ?_
 refine BV 1 [(1, .ptr (some (h.size, 0))), (4, .ptr (some (h3.size, 0))), (5, Ai x6)] H fun fr H => CX 2 id (AO 2 [(55, .bool (x6 != 0))] H fun fr H => Ad 55 H hm (fun hb hm H => ?_) fun hb hm H => ?_)
 ·refine AG 3 (AO 3 [(2, .ptr none), (3, Ai x6)] H fun fr H => AU ?_)
  obtain ⟨rfl, rfl⟩ := Cw hm
  refine ⟨.inl rfl, .tuple [.ptr none, Ai x6], rH H, ?_⟩
  replace A := A.d0
  exact .inr ⟨rfl, rfl, A⟩
 refine Bf id (AQ (AQ (Ep 13 19 ?_)))
 refine Ag 5 [(58, .ptr (some (h3.size, 0)))] 63 2 2 A H fun fr t H => ?_
 refine Ag 1 [] 65 3 13 A H fun fr t H => ?_
 refine Ag 1 [] 67 3 11 A H fun fr t H => ?_
 obtain ⟨⟨w8, x8, x9⟩, hx, hm⟩ := bind_some hm
 obtain ⟨v1, h9, hr, hc⟩ := Q6 (av := [vs AJ x2.Br, Ai p0.Bl, Ai p0.Name]) hx (A.cut 0)
 rcases hc with ⟨bx7w7, rx7w7_0, x7w7, rfl, rfl, A1⟩ | ⟨rfl, rfl, A1⟩
 ·replace A := A.YE A1
  refine BA 68 hr H fun fr t H => ?_
  obtain ⟨h10, hx, A⟩ := A.s4 16 [.ptr (some (bx7w7, 0))] [_, _, _, _, _, _, _, _, _, _, _, _, _, _, _, _, _, _]
  refine FJ 6 [(71, Ai x9)] hx H fun fr t H => ?_
  refine BV 1 [(1, .ptr (some (h.size, 0))), (4, .ptr (some (h3.size, 0))), (5, Ai x9)] H fun fr H => CX 2 id (AO 2 [(75, .bool (x9 != 0))] H fun fr H => Ad 75 H hm (fun hb hm H => ?_) fun hb hm H => ?_)
  ·refine AG 3 (AO 3 [(2, .ptr none), (3, Ai x9)] H fun fr H => AU ?_)
   obtain ⟨rfl, rfl⟩ := Cw hm
   refine ⟨.inl rfl, .tuple [.ptr none, Ai x9], rH H, ?_⟩
   replace A := A.d0
   exact .inr ⟨rfl, rfl, A⟩
  refine Ce 15 id (Ag 2 [(78, .ptr (some (h3.size, 0)))] 80 5 9 A H fun fr t H => ?_)
  refine Ag 1 [] 82 5 0 A H fun fr t H => ?_
  obtain ⟨⟨w12, x11⟩, hx, hm⟩ := bind_some hm
  obtain ⟨v1, h11, hr, hc⟩ := Mo (av := [Ai p0.IH, Ai (mx (p0.Ak.length : Int) (1 : Int))]) hx (A.cut 0)
  rcases hc with ⟨bx10w11, x10w11, rfl, rfl, A1⟩ | ⟨rfl, rfl, A1⟩
  ·replace A := A.YL A1
   refine A0 2 [] 85 hr H fun fr t H => ?_
   obtain ⟨h12, hx, A⟩ := A.s5 17 [.ptr (some (bx10w11, 0))] [_, _, _, _, _, _, _, _, _, _, _, _, _, _, _, _, _, _]
   refine FJ 5 [(87, Ai x11)] hx H fun fr t H => ?_
   refine BV 1 [(4, .ptr (some (h3.size, 0))), (5, Ai x11)] H fun fr H => CX 4 id (AO 4 [(2, .ptr (some (h3.size, 0))), (3, Ai x11)] H fun fr H => AU ?_)
   obtain ⟨rfl, rfl⟩ := Cw hm
   refine ⟨.inl rfl, .tuple [.ptr (some (h3.size, 0)), Ai x11], rH H, ?_⟩
   replace A := A.k6 5 4 3 1 2 0
   exact .inl ⟨h3.size, rqw3, rqw5, bx7w7, rx7w7_0, bx10w11, (⟨x2, x3, x5, x7w7, x10w11⟩ : Bw), rfl, rfl, A⟩
  replace A := A.EX A1
  refine A0 2 [] 85 hr H fun fr t H => ?_
  obtain ⟨h13, hx, A⟩ := A.s4 17 [.ptr none] [_, _, _, _, _, _, _, _, _, _, _, _, _, _, _, _, _, _]
  refine FJ 5 [(87, Ai x11)] hx H fun fr t H => ?_
  refine BV 1 [(4, .ptr (some (h3.size, 0))), (5, Ai x11)] H fun fr H => CX 4 id (AO 4 [(2, .ptr (some (h3.size, 0))), (3, Ai x11)] H fun fr H => AU ?_)
  cases hm
 replace A := A.EX A1
 refine BA 68 hr H fun fr t H => ?_
 obtain ⟨h14, hx, A⟩ := A.s2 16 [.ptr none] [_, _, _, _, _, _, _, _, _, _, _, _, _, _, _, _, _, _]
 refine FJ 6 [(71, Ai x9)] hx H fun fr t H => ?_
 refine BV 1 [(1, .ptr (some (h.size, 0))), (4, .ptr (some (h3.size, 0))), (5, Ai x9)] H fun fr H => CX 2 id (AO 2 [(75, .bool (x9 != 0))] H fun fr H => Ad 75 H hm (fun hb hm H => ?_) fun hb hm H => ?_)
 ·refine AG 3 (AO 3 [(2, .ptr none), (3, Ai x9)] H fun fr H => AU ?_)
  obtain ⟨rfl, rfl⟩ := Cw hm
  refine ⟨.inl rfl, .tuple [.ptr none, Ai x9], rH H, ?_⟩
  replace A := A.d0
  exact .inr ⟨rfl, rfl, A⟩
 refine Ce 15 id (Ag 2 [(78, .ptr (some (h3.size, 0)))] 80 3 9 A H fun fr t H => ?_)
 refine Ag 1 [] 82 3 0 A H fun fr t H => ?_
 obtain ⟨⟨w15, x13⟩, hx, hm⟩ := bind_some hm
 obtain ⟨v1, h15, hr, hc⟩ := Mo (av := [Ai p0.IH, Ai (mx (p0.Ak.length : Int) (1 : Int))]) hx (A.cut 0)
 rcases hc with ⟨bx12w14, x12w14, rfl, rfl, A1⟩ | ⟨rfl, rfl, A1⟩
 ·replace A := A.YL A1
  refine A0 2 [] 85 hr H fun fr t H => ?_
  obtain ⟨h16, hx, A⟩ := A.s3 17 [.ptr (some (bx12w14, 0))] [_, _, _, _, _, _, _, _, _, _, _, _, _, _, _, _, _, _]
  refine FJ 5 [(87, Ai x13)] hx H fun fr t H => ?_
  refine BV 1 [(4, .ptr (some (h3.size, 0))), (5, Ai x13)] H fun fr H => CX 4 id (AO 4 [(2, .ptr (some (h3.size, 0))), (3, Ai x13)] H fun fr H => AU ?_)
  cases hm
 replace A := A.EX A1
 refine A0 2 [] 85 hr H fun fr t H => ?_
 obtain ⟨h17, hx, A⟩ := A.s2 17 [.ptr none] [_, _, _, _, _, _, _, _, _, _, _, _, _, _, _, _, _, _]
 refine FJ 5 [(87, Ai x13)] hx H fun fr t H => ?_
 refine BV 1 [(4, .ptr (some (h3.size, 0))), (5, Ai x13)] H fun fr H => CX 4 id (AO 4 [(2, .ptr (some (h3.size, 0))), (3, Ai x13)] H fun fr H => AU ?_)
 cases hm
def FN (p0 : Bw) (p1 : List AN) : Option (Unit) :=
 some ()
theorem Ju {p0 p1 bp0 rp0_14 rp0_15 bp0_16 rp0_16_0 bp0_17 rp1} (hm : FN p0 p1 = some ()) (A : HH g h [.obj bp0 (.cells none 2 [vs AE p0.c_.Ak, vs AE p0.c_.Al, vs AJ p0.c_.Br, .bool p0.c_.I0, .bool p0.c_.Be, Ai p0.c_.Bv, .bool p0.c_.CR, Ai p0.c_.BK.DF, Ai p0.c_.BK.Bn, Ai p0.c_.IH, Ai p0.c_.CO, Ai p0.c_.Name, Ai p0.c_.Head, Ai p0.c_.Bl, AF rp0_14 p0.AZ.length, AF rp0_15 p0.Ac.length, .ptr (some (bp0_16, 0)), .ptr (some (bp0_17, 0))]), .AI rp0_14 136 (AI (eP AB) p0.AZ), .AI rp0_15 136 (AI (eP AB) p0.Ac), .obj bp0_16 (.cells none 2 [AF rp0_16_0 p0.Af.l_.length, Ai p0.Af.Bd]), .AI rp0_16_0 142 (AI (eP AL) p0.Af.l_), .obj bp0_17 (.cells none 2 ([Ai p0.Am.n_, Ai p0.Am.An] ++ (Cj 257 (AA.int .i64) p0.Am.BI ++ []))), .AI rp1 44 (AI AD p1)] F) (hc : BF (cfg.still 49) av = [.ptr (some (bp0, 0)), AF rp1 p1.length] := by kernel_rfl) : ∃ v h', BL cfg g h 49 av v h' ∧ ∃ (bq0_10 : Nat) (bq0_11 : Nat), v = .func (.func 89) [] [.ptr (some (bq0_10, 0)), .ptr (some (bq0_11, 0))] ∧ HH g h' [.obj bq0_10 (.cells none 2 [AF rp1 p1.length]), .obj bq0_11 (.cells none 2 [.ptr (some (bp0, 0))]), .obj bp0 (.cells none 2 [vs AE p0.c_.Ak, vs AE p0.c_.Al, vs AJ p0.c_.Br, .bool p0.c_.I0, .bool p0.c_.Be, Ai p0.c_.Bv, .bool p0.c_.CR, Ai p0.c_.BK.DF, Ai p0.c_.BK.Bn, Ai p0.c_.IH, Ai p0.c_.CO, Ai p0.c_.Name, Ai p0.c_.Head, Ai p0.c_.Bl, AF rp0_14 p0.AZ.length, AF rp0_15 p0.Ac.length, .ptr (some (bp0_16, 0)), .ptr (some (bp0_17, 0))]), .AI rp0_14 136 (AI (eP AB) p0.AZ), .AI rp0_15 136 (AI (eP AB) p0.Ac), .obj bp0_16 (.cells none 2 [AF rp0_16_0 p0.Af.l_.length, Ai p0.Af.Bd]), .AI rp0_16_0 142 (AI (eP AL) p0.Af.l_), .obj bp0_17 (.cells none 2 ([Ai p0.Am.n_, Ai p0.Am.An] ++ (Cj 257 (AA.int .i64) p0.Am.BI ++ []))), .AI rp1 44 (AI AD p1)] F := by
 refine Dr 6 [.tmp 4] hc ?_
 clear hc
 unfold FN at hm
 refine bg 6 [(0, .ptr (some (bp0, 0))), (1, AF rp1 p1.length)] fun fr H => ?_
 refine AG 3 ?_
 obtain ⟨h1, e1, A⟩ := A.pu (.cells none 2 [.ptr (some (bp0, 0))])
 refine BB 2 (.ptr (some (h.size, 0))) e1 H fun fr t H => ?_
 obtain ⟨h2, e2, A⟩ := A.pu (.cells none 2 [AF rp1 p1.length])
 refine BB 3 (.ptr (some (h1.size, 0))) e2 H fun fr t H => ?_
 refine Bc 1 [] 2 H fun fr H => AO 2 [(4, .func (.func 89) [] [.ptr (some (h1.size, 0)), .ptr (some (h.size, 0))])] H fun fr H => AU ?_
 exact ⟨.inl rfl, _, rH H, _, _, rfl, A⟩
def CW (p0 : List UInt8) : Option ((List UInt8)) :=
 Aa ((p0 == ([] : List UInt8)) || (([47] : List UInt8) == ([] : List UInt8))) (some p0) ((C7 p0 (47 : Int)).bind fun x1 => some x1)
theorem GI {p0 q0} (hm : CW p0 = some q0) (A : HH g h [] F) (hc : BF (cfg.still 151) av = [.str p0, .str ([47] : List UInt8)] := by kernel_rfl) : ∃ v h', BL cfg g h 151 av v h' ∧ v = .str q0 ∧ HH g h' [] F := by
 refine Dr 37 [.tmp 4] hc ?_
 clear hc
 unfold CW at hm
 refine bg 37 [(0, .str p0), (1, .str ([47] : List UInt8))] fun fr H => ?_
 refine AG 1 (AO 1 [] H fun fr H => AQ (AG 6 (AK 3 [(9, .bool (p0 == ([] : List UInt8)))] H fun fr H => A9 3 (fun fr' h' => h = h' ∧ Has fr' 37 [(0, .str p0), (1, .str ([47] : List UInt8)), (12, .bool ((p0 == ([] : List UInt8)) || (([47] : List UInt8) == ([] : List UInt8))))]) ?_ ?_)))
 ·cases hb : (p0 == ([] : List UInt8) : Bool) with
  | true =>
   replace H := H.kn 9 hb
   exact AK 3 [(12, .bool true)] H fun fr H => BH H hb
  | false =>
   replace H := H.kn 9 hb
   exact AK 3 [(12, .bool (([47] : List UInt8) == ([] : List UInt8)))] H fun fr H => BH H hb
 intro t fr h' hK
 obtain ⟨e, H⟩ := hK
 subst e
 refine BJ id (Ad 12 H hm (fun hb hm H => ?_) fun hb hm H => ?_)
 ·refine AG 2 (AO 2 [(4, .str p0)] H fun fr H => AU ?_)
  obtain rfl := AY hm
  exact ⟨.inl rfl, _, rH H, rfl, A⟩
 refine Bf id (AQ (AG 8 (AO 8 [(21, .bool true)] H fun fr H => HB (x := .tmp 21) (by kernel_rfl) H (fun fr => by kernel_rfl) ?_)))
 refine AG 5 ?_
 obtain ⟨x1, hx, hm⟩ := bind_some hm
 obtain ⟨v1, h1, hr, rfl, A1⟩ := GV (av := [.str p0, Ab 47]) hx (A.cut 0)
 replace A := A.EX A1
 refine A0 3 [] 25 hr H fun fr t H => ?_
 refine AO 1 [(4, .str x1)] H fun fr H => AU ?_
 obtain rfl := AY hm
 exact ⟨.inl rfl, _, rH H, rfl, A⟩
def BY (p0 : List UInt8) (p1 : Int) (s : Int) : Option ((Int) ⊕ ((Unit) ⊕ (Int))) :=
 match s with
 | x1 => Aa (decide (x1 ≥ 0)) ((RD p0 x1).bind fun x3 => Aa (x3 == p1) (some (.inr (.inr x1))) (some (.inl (IntKind.i64.wrap (x1 - 1))))) (some (.inr (.inl ())))
def Cp (p0 : List UInt8) (p1 : Int) : Option (Int) :=
 (loop (BY p0 p1) (IntKind.i64.wrap ((p0.length : Int) - 1))).bind fun o1 => (match o1 with | .inl _ => some (-1 : Int) | .inr x2 => some x2)
theorem HQ {p0 p1 q0} (hm : Cp p0 p1 = some q0) (A : HH g h [] F) (hc : BF (cfg.still 215) av = [.str p0, Ab p1] := by kernel_rfl) : ∃ v h', BL cfg g h 215 av v h' ∧ v = Ai q0 ∧ HH g h' [] F := by
 refine Dr 19 [.tmp 4] hc ?_
 clear hc
 unfold Cp at hm
 refine bg 19 [(0, .str p0), (1, Ab p1)] fun fr H => ?_
 refine AG 1 (AO 1 [] H fun fr H => AQ (AG 4 (AO 4 [(5, Ai (IntKind.i64.wrap ((p0.length : Int) - 1)))] H fun fr H => AV (id := 0) (by kernel_rfl) ?_)))
 obtain ⟨o1, ho, hm⟩ := bind_some hm
 refine Ax (Q' := fun e fr' h' => (e = .exit 0 ∧ .inl () = o1 ∧ Has fr' 19 [] ∧ HH g h' [] F) ∨ (∃ x2, e = .ret ∧ .inr x2 = o1 ∧ Has fr' 19 [(4, Ai x2)] ∧ HH g h' [] F) ∨ False) ?_ ?_
 ·refine Bh (by kernel_rfl) (fun (s : Int) fr' h' => ∃ x1, x1 = s ∧ Has fr' 19 [(0, .str p0), (1, Ab p1), (5, Ai x1)] ∧ HH g h' [] F) ho ⟨_, rfl, H.ls, A⟩ ?_
  clear ho hm H A
  intro s q fr h1 hI hm
  obtain ⟨x1, rfl, H, A⟩ := hI
  unfold BY at hm
  refine AQ (AG 2 (AO 2 [(10, .bool (decide (x1 ≥ 0)))] H fun fr H => Ad 10 H hm (fun hb hm H => ?_) fun hb hm H => ?_))
  ·refine Bf id (AQ (AV (id := 1) (by kernel_rfl) ?_))
   refine AG 5 ?_
   obtain ⟨x3, hx, hm⟩ := bind_some hm
   refine Ap 2 [] 15 (Ab x3) h1 H (fun fr => .of (JG (by kernel_rfl) hx)) fun fr t H => ?_
   refine AO 2 [(17, .bool (x3 == p1))] H fun fr H => Ad 17 H hm (fun hb hm H => ?_) fun hb hm H => ?_
   ·refine AG 2 (AO 2 [(4, Ai x1)] H fun fr H => AU ?_)
    exact nr hm fun e => Or.inr (.inl ⟨_, rfl, e, H.ls, A⟩)
   refine Fh 3 id (BV 3 [(0, .str p0), (1, Ab p1), (5, Ai (IntKind.i64.wrap (x1 - 1)))] H fun fr H => at_nil ?_)
   exact nx hm ⟨_, rfl, H.ls, A⟩
  refine BU (i := 0) (by kernel_rfl) ?_
  exact nr hm fun e => .inl ⟨rfl, e, H.ls, A⟩
 clear ho
 clear A
 intro e fr h2 hQ
 rcases hQ with ⟨rfl, rfl, H, A⟩ | ⟨x2, rfl, rfl, H, A⟩ | hF
 ·show AW _ _ _ _ _ _ _
  refine AG 1 (AO 1 [(4, Ai (-1))] H fun fr H => AU ?_)
  obtain rfl := AY hm
  exact ⟨.inl rfl, _, rH H, rfl, A⟩
 ·obtain rfl := AY hm
  exact ⟨.inl rfl, _, rH H, rfl, A⟩
 exact hF.elim
def C6 (p0 : List UInt8) (p1 : Int) : Option (Int) :=
 (Cp p0 p1).bind fun x1 => some x1
theorem JZ {p0 p1 q0} (hm : C6 p0 p1 = some q0) (A : HH g h [] F) (hc : BF (cfg.still 152) av = [.str p0, Ab p1] := by kernel_rfl) : ∃ v h', BL cfg g h 152 av v h' ∧ v = Ai q0 ∧ HH g h' [] F := by
 refine Dr 8 [.tmp 4] hc ?_
 clear hc
 unfold C6 at hm
 refine bg 8 [(0, .str p0), (1, Ab p1)] fun fr H => ?_
 refine AG 1 (Bc 1 [] 4 H fun fr H => ?_)
 obtain ⟨x1, hx, hm⟩ := bind_some hm
 obtain ⟨v1, h1, hr, rfl, A1⟩ := HQ (av := [.str p0, Ab p1]) hx (A.cut 0)
 replace A := A.EX A1
 refine A0 2 [] 7 hr H fun fr t H => ?_
 refine AO 1 [(4, Ai x1)] H fun fr H => AU ?_
 obtain rfl := AY hm
 exact ⟨.inl rfl, _, rH H, rfl, A⟩
def F6 (p0 : List UInt8) : Option ((List UInt8)) :=
 (CW p0).bind fun x1 => (C6 x1 (47 : Int)).bind fun x2 => (Jx x1 (some (IntKind.i64.wrap (x2 + 1))) none).bind fun x3 => some x3
theorem MA {p0 q0} (hm : F6 p0 = some q0) (A : HH g h [] F) (hc : BF (cfg.still 90) av = [.str p0] := by kernel_rfl) : ∃ v h', BL cfg g h 90 av v h' ∧ v = .str q0 ∧ HH g h' [] F := by
 refine Dr 10 [.tmp 2] hc ?_
 clear hc
 unfold F6 at hm
 refine bg 10 [(0, .str p0)] fun fr H => ?_
 refine AG 1 (Bc 1 [] 3 H fun fr H => ?_)
 obtain ⟨x1, hx, hm⟩ := bind_some hm
 obtain ⟨v1, h1, hr, rfl, A1⟩ := GI (av := [.str p0, .str ([47] : List UInt8)]) hx (A.cut 0)
 replace A := A.EX A1
 refine A0 1 [] 4 hr H fun fr t H => ?_
 refine BV 1 [(0, .str x1)] H fun fr H => CX 6 id ?_
 obtain ⟨x2, hx, hm⟩ := bind_some hm
 obtain ⟨v1, h2, hr, rfl, A1⟩ := JZ (av := [.str x1, Ab 47]) hx (A.cut 0)
 replace A := A.EX A1
 refine A0 2 [(5, .str x1)] 7 hr H fun fr t H => ?_
 obtain ⟨x3, hx, hm⟩ := bind_some hm
 refine Ap 1 [] 9 (.str x3) h2 H (fun fr => .of (Ib (k := .i64) (k' := .i64) (lo := (some (IntKind.i64.wrap (x2 + 1)))) (hi := none) (by kernel_rfl) hx)) fun fr t H => ?_
 refine AO 1 [(2, .str x3)] H fun fr H => AU ?_
 obtain rfl := AY hm
 exact ⟨.inl rfl, _, rH H, rfl, A⟩
def Dp (p0 : List UInt8) (p1 : List UInt8) : Option (Bool) :=
 (Aa (decide ((p0.length : Int) ≥ (p1.length : Int))) ((Jx p0 none (some (p1.length : Int))).bind fun x2 => some (x2 == p1)) (some false) : Option (Bool)).bind fun x1 => some x1
theorem Jg {p0 p1 q0} (hm : Dp p0 p1 = some q0) (A : HH g h [] F) (hc : BF (cfg.still 153) av = [.str p0, .str p1] := by kernel_rfl) : ∃ v h', BL cfg g h 153 av v h' ∧ v = .bool q0 ∧ HH g h' [] F := by
 refine Dr 18 [.tmp 4] hc ?_
 clear hc
 unfold Dp at hm
 refine bg 18 [(0, .str p0), (1, .str p1)] fun fr H => ?_
 refine AG 1 (Bc 1 [] 14 H fun fr H => AK 6 [(10, .bool (decide ((p0.length : Int) ≥ (p1.length : Int))))] H fun fr H => ?_)
 obtain ⟨x1, ho, hm⟩ := bind_some hm
 refine A9 7 (fun fr' h' => Has fr' 18 [(17, .bool x1)] ∧ HH g h' [] F) ?_ ?_
 ·rcases AX ho with ⟨hb, hm⟩ | ⟨hb, hm⟩
  ·replace H := H.kn 10 hb
   obtain ⟨x2, hx, hm⟩ := bind_some hm
   refine Ap 3 [] 14 (.str x2) h H (fun fr => .of (Ib (k := .i64) (k' := .i64) (lo := none) (hi := (some (p1.length : Int))) (by kernel_rfl) hx)) fun fr t H => ?_
   refine AK 3 [(17, .bool (x2 == p1))] H fun fr H => ?_
   obtain rfl := AY hm
   exact at_nil ⟨H.ls, A⟩
  replace H := H.kn 10 hb
  refine AK 7 [(17, .bool false)] H fun fr H => ?_
  obtain rfl := AY hm
  exact at_nil ⟨H.ls, A⟩
 clear A
 intro t fr h1 hK
 obtain ⟨H, A⟩ := hK
 refine AO 1 [(4, .bool x1)] H fun fr H => AU ?_
 obtain rfl := AY hm
 exact ⟨.inl rfl, _, rH H, rfl, A⟩
def Ch (p0 : List UInt8) (p1 : List UInt8) : Option (Bool) :=
 (Dp p0 p1).bind fun x1 => some x1
theorem Ft {p0 p1 q0} (hm : Ch p0 p1 = some q0) (A : HH g h [] F) (hc : BF (cfg.still 91) av = [.str p0, .str p1] := by kernel_rfl) : ∃ v h', BL cfg g h 91 av v h' ∧ v = .bool q0 ∧ HH g h' [] F := by
 refine Dr 8 [.tmp 4] hc ?_
 clear hc
 unfold Ch at hm
 refine bg 8 [(0, .str p0), (1, .str p1)] fun fr H => ?_
 refine AG 1 (Bc 1 [] 4 H fun fr H => ?_)
 obtain ⟨x1, hx, hm⟩ := bind_some hm
 obtain ⟨v1, h1, hr, rfl, A1⟩ := Jg (av := [.str p0, .str p1]) hx (A.cut 0)
 replace A := A.EX A1
 refine A0 2 [] 7 hr H fun fr t H => ?_
 refine AO 1 [(4, .bool x1)] H fun fr H => AU ?_
 obtain rfl := AY hm
 exact ⟨.inl rfl, _, rH H, rfl, A⟩
def Dn (p0 : List UInt8) : Option ((List UInt8)) :=
 some p0
theorem Jo {p0 q0_11} (hm : Dn p0 = some q0_11) (A : HH g h [] F) (hc : BF (cfg.still 157) av = [.str p0, .str ([47] : List UInt8), Ai (0 : Int)] := by kernel_rfl) : ∃ v h', BL cfg g h 157 av v h' ∧ ∃ (bq0_10 : Nat) (bq0_11 : Nat) (bq0_12 : Nat), v = .func (.func 227) [] [.ptr (some (bq0_10, 0)), .ptr (some (bq0_11, 0)), .ptr (some (bq0_12, 0))] ∧ HH g h' [.obj bq0_10 (.cells none 2 [.str ([47] : List UInt8)]), .obj bq0_11 (.cells none 2 [.str q0_11]), .obj bq0_12 (.cells none 2 [Ai (0 : Int)])] F := by
 refine Dr 8 [.tmp 6] hc ?_
 clear hc
 unfold Dn at hm
 refine bg 8 [(0, .str p0), (1, .str ([47] : List UInt8)), (2, Ai (0 : Int))] fun fr H => ?_
 refine AG 4 ?_
 obtain ⟨h1, e1, A⟩ := A.pu (.cells none 2 [.str p0])
 refine BB 3 (.ptr (some (h.size, 0))) e1 H fun fr t H => ?_
 obtain ⟨h2, e2, A⟩ := A.pu (.cells none 2 [.str ([47] : List UInt8)])
 refine BB 4 (.ptr (some (h1.size, 0))) e2 H fun fr t H => ?_
 obtain ⟨h3, e3, A⟩ := A.pu (.cells none 2 [Ai 0])
 refine BB 5 (.ptr (some (h2.size, 0))) e3 H fun fr t H => ?_
 refine Bc 1 [] 2 H fun fr H => AO 2 [(6, .func (.func 227) [] [.ptr (some (h1.size, 0)), .ptr (some (h.size, 0)), .ptr (some (h2.size, 0))])] H fun fr H => AU ?_
 obtain rfl := AY hm
 refine ⟨.inl rfl, .func (.func 227) [] [.ptr (some (h1.size, 0)), .ptr (some (h.size, 0)), .ptr (some (h2.size, 0))], rH H, ?_⟩
 replace A : HH g h3 [.obj h1.size (.cells none 2 [.str ([47] : List UInt8)]), .obj h.size (.cells none 2 [.str p0]), .obj h2.size (.cells none 2 [Ai 0])] F := (((A.front 0 rfl).front 2 rfl).front 2 rfl)
 exact ⟨h1.size, h.size, h2.size, rfl, A⟩
def ED (p0 : List UInt8) : Option ((List UInt8)) :=
 (Dn p0).bind fun x1_11 => some x1_11
theorem Jy {p0 q0_11} (hm : ED p0 = some q0_11) (A : HH g h [] F) (hc : BF (cfg.still 96) av = [.str p0, .str ([47] : List UInt8)] := by kernel_rfl) : ∃ v h', BL cfg g h 96 av v h' ∧ ∃ (bq0_10 : Nat) (bq0_11 : Nat) (bq0_12 : Nat), v = .func (.func 227) [] [.ptr (some (bq0_10, 0)), .ptr (some (bq0_11, 0)), .ptr (some (bq0_12, 0))] ∧ HH g h' [.obj bq0_10 (.cells none 2 [.str ([47] : List UInt8)]), .obj bq0_11 (.cells none 2 [.str q0_11]), .obj bq0_12 (.cells none 2 [Ai (0 : Int)])] F := by
 refine Dr 8 [.tmp 4] hc ?_
 clear hc
 unfold ED at hm
 refine bg 8 [(0, .str p0), (1, .str ([47] : List UInt8))] fun fr H => ?_
 refine AG 1 (Bc 1 [] 4 H fun fr H => ?_)
 obtain ⟨x1_11, hx, hm⟩ := bind_some hm
 obtain ⟨v1, h1, hr, bqw1_10, bqw1_11, bqw1_12, rfl, A1⟩ := Jo (av := [.str p0, .str ([47] : List UInt8), Ai 0]) hx (A.cut 0)
 replace A := A.ZI A1
 refine A0 2 [] 7 hr H fun fr t H => ?_
 refine AO 1 [(4, .func (.func 227) [] [.ptr (some (bqw1_10, 0)), .ptr (some (bqw1_11, 0)), .ptr (some (bqw1_12, 0))])] H fun fr H => AU ?_
 obtain rfl := AY hm
 exact ⟨.inl rfl, _, rH H, _, _, _, rfl, A⟩
def Bo {SY RY : Type} (Y : SY → (List UInt8) → Option (SY ⊕ RY)) (s : (List UInt8) × (SY ⊕ RY)) : Option (((List UInt8) × (SY ⊕ RY)) ⊕ (((List UInt8) × (SY ⊕ RY)) ⊕ ((List UInt8) × (SY ⊕ RY)))) :=
 match s with
 | (x1, y1) => Em (decide (x1.length ≤ 4294967280)) <| Aa (decide ((Lib.index x1 ([47] : List UInt8)) < 0)) (some (.inr (.inl (x1, y1)))) ((Jx x1 none (some (IntKind.i64.wrap ((Lib.index x1 ([47] : List UInt8)) + 0)))).bind fun x4 => (T0 Y y1 x4).bind fun (x5, y4) => Aa (!x5) (some (.inr (.inr (x1, y4)))) ((Jx x1 (some (IntKind.i64.wrap ((Lib.index x1 ([47] : List UInt8)) + 1))) none).bind fun x6 => some (.inl (x6, y4))))
def Cv {SY RY : Type} (Y : SY → (List UInt8) → Option (SY ⊕ RY)) (y : SY ⊕ RY) (p2 : List UInt8) : Option ((List UInt8) × (SY ⊕ RY)) :=
 (loop (Bo Y) (p2, y)).bind fun o1 => (match o1 with | .inl (x2, y2) => (T0 Y y2 x2).bind fun (x7, y5) => some (x2, y5) | .inr (x3, y3) => some (x3, y3))
theorem Hj {SY RY : Type} {R : SY ⊕ RY → List Ck → Prop} {Y : SY → (List UInt8) → Option (SY ⊕ RY)} {y : SY ⊕ RY} {p2 l bp1 bp2 bp3 u1} {yq : SY ⊕ RY} (hm : Cv Y y p2 = some (u1, yq)) (hc : BF (cfg.still 227) av = [.Lx l, .ptr (some (bp1, 0)), .ptr (some (bp2, 0)), .ptr (some (bp3, 0))]) (hYR : YR cfg g l (fun x => [.str x]) Y R) (B : R y F) (A : HH g h [.obj bp1 (.cells none 2 [.str ([47] : List UInt8)]), .obj bp2 (.cells none 2 [.str p2]), .obj bp3 (.cells none 2 [Ai (0 : Int)])] F) : ∃ v h', BL cfg g h 227 av v h' ∧ v = .tuple [] ∧ ∃ F, R yq F ∧ HH g h' [.obj bp1 (.cells none 2 [.str ([47] : List UInt8)]), .obj bp2 (.cells none 2 [.str u1]), .obj bp3 (.cells none 2 [Ai (0 : Int)])] F := by
 refine Dr 52 [] hc ?_
 clear hc
 unfold Cv at hm
 refine bg 52 [(0, .Lx l), (1, .ptr (some (bp1, 0))), (2, .ptr (some (bp2, 0))), (3, .ptr (some (bp3, 0)))] fun fr H => ?_
 refine AQ (AG 3 (FK 9 0 0 A H fun fr t H => ?_))
 refine AO 2 [(11, .bool false)] H fun fr H => O4 (x := .tmp 11) (by kernel_rfl) H (fun fr => by kernel_rfl) ?_
 refine Bf id (AQ (AV (id := 2) (by kernel_rfl) ?_))
 obtain ⟨o1, ho, hm⟩ := bind_some hm
 refine Ax (Q' := fun e fr' h' => (∃ x2, ∃ (y2 : SY ⊕ RY), e = .exit 2 ∧ .inl (x2, y2) = o1 ∧ Has fr' 52 [(0, .Lx l), (2, .ptr (some (bp2, 0)))] ∧ ∃ F, R y2 F ∧ HH g h' [.obj bp1 (.cells none 2 [.str ([47] : List UInt8)]), .obj bp2 (.cells none 2 [.str x2]), .obj bp3 (.cells none 2 [Ai 0])] F) ∨ (∃ x3, ∃ (y3 : SY ⊕ RY), e = .ret ∧ .inr (x3, y3) = o1 ∧ Has fr' 52 [] ∧ ∃ F, R y3 F ∧ HH g h' [.obj bp1 (.cells none 2 [.str ([47] : List UInt8)]), .obj bp2 (.cells none 2 [.str x3]), .obj bp3 (.cells none 2 [Ai 0])] F) ∨ False) ?_ ?_
 ·refine Bh (by kernel_rfl) (fun (s : (List UInt8) × (SY ⊕ RY)) fr' h' => ∃ x1, ∃ (y1 : SY ⊕ RY), (x1, y1) = s ∧ Has fr' 52 [(0, .Lx l), (1, .ptr (some (bp1, 0))), (2, .ptr (some (bp2, 0))), (3, .ptr (some (bp3, 0)))] ∧ ∃ F, R y1 F ∧ HH g h' [.obj bp1 (.cells none 2 [.str ([47] : List UInt8)]), .obj bp2 (.cells none 2 [.str x1]), .obj bp3 (.cells none 2 [Ai 0])] F) ho ⟨p2, y, rfl, H.ls, ⟨F, B, A⟩⟩ ?_
  clear ho hm H A
  intro s q fr h1 hI hm
  obtain ⟨x1, y1, rfl, H, ⟨F, B, A⟩⟩ := hI
  unfold Bo at hm
  refine AV (id := 3) (by kernel_rfl) ?_
  refine AG 4 (FK 29 1 0 A H fun fr t H => ?_)
  refine FK 30 0 0 A H fun fr t H => ?_
  obtain ⟨hb, hm⟩ := BE hm
  refine Aq 31 (Ai (Lib.index x1 ([47] : List UInt8))) h1 H (fun fr => Steps.call (by kernel_rfl) (UB (C := cfg) (f := 228) (a := 0) (by kernel_rfl) (l := exts) rfl (by kernel_rfl) hb)) fun fr t H => ?_
  refine AO 1 [(7, Ai (Lib.index x1 ([47] : List UInt8)))] H fun fr H => AQ (AG 2 (AO 2 [(33, .bool (decide ((Lib.index x1 ([47] : List UInt8)) < 0)))] H fun fr H => Ad 33 H hm (fun hb hm H => ?_) fun hb hm H => ?_))
  ·refine BU (i := 2) (by kernel_rfl) ?_
   exact nr hm fun e => .inl ⟨x1, y1, rfl, e, H.ls, ⟨F, B, A⟩⟩
  refine Ce 6 id (FK 34 1 0 A H fun fr t H => ?_)
  refine Ag 1 [(35, Ai (Lib.index x1 ([47] : List UInt8)))] 36 2 0 A H fun fr t H => ?_
  obtain ⟨x4, hx, hm⟩ := bind_some hm
  refine Ap 1 [] 38 (.str x4) h1 H (fun fr => .of (Ib (k := .i64) (k' := .i64) (lo := none) (hi := (some (IntKind.i64.wrap ((Lib.index x1 ([47] : List UInt8)) + 0)))) (by kernel_rfl) hx)) fun fr t H => ?_
  refine AO 1 [(8, .str x4)] H fun fr H => AQ (AG 4 ?_)
  obtain ⟨⟨x5, y4⟩, hx, hm⟩ := bind_some hm
  obtain ⟨h2, F, hr, B, A⟩ := hYR.T0 (pr := []) .nil A B hx
  refine Ap 2 [] 41 (.bool x5) h2 H (fun fr => Steps.round (by kernel_rfl) hr) fun fr t H => ?_
  refine AO 1 [(42, .bool (!x5))] H fun fr H => Ad 42 H hm (fun hb hm H => ?_) fun hb hm H => ?_
  ·refine AU ?_
   exact nr hm fun e => Or.inr (.inl ⟨x1, y4, rfl, e, H.ls, ⟨F, B, A⟩⟩)
  refine Fh 7 id (FK 43 1 0 A H fun fr t H => ?_)
  refine Ag 1 [(44, Ai (Lib.index x1 ([47] : List UInt8)))] 45 0 0 A H fun fr t H => ?_
  obtain ⟨x6, hx, hm⟩ := bind_some hm
  refine Ap 2 [] 48 (.str x6) h2 H (fun fr => .of (Ib (k := .i64) (k' := .i64) (lo := (some (IntKind.i64.wrap ((Lib.index x1 ([47] : List UInt8)) + 1)))) (hi := none) (by kernel_rfl) hx)) fun fr t H => ?_
  obtain ⟨h3, hx, A1⟩ := A.st 1 rfl (o := 0) (new := [.str x6]) (ds := [.str x6]) (Nat.le_of_ble_eq_true rfl) rfl rfl
  replace A : HH g h3 [.obj bp1 (.cells none 2 [.str ([47] : List UInt8)]), .obj bp2 (.cells none 2 [.str x6]), .obj bp3 (.cells none 2 [Ai 0])] F := A1
  refine GK hx H fun fr t H => ?_
  refine at_nil ?_
  exact nx hm ⟨x6, y4, rfl, H.ls, ⟨F, B, A⟩⟩
 clear ho
 clear A
 intro e fr h4 hQ
 rcases hQ with ⟨x2, y2, rfl, rfl, H, ⟨F, B, A⟩⟩ | ⟨x3, y3, rfl, rfl, H, ⟨F, B, A⟩⟩ | hF
 ·show AW _ _ _ _ _ _ _
  refine Cy 3 (Ag 1 [(49, .Lx l)] 50 1 0 A H fun fr t H => ?_)
  obtain ⟨⟨x7, y5⟩, hx, hm⟩ := bind_some hm
  obtain ⟨h5, F, hr, B, A⟩ := hYR.T0 (pr := []) .nil A B hx
  refine Mg (.bool x7) h5 H (fun fr => Steps.round (by kernel_rfl) hr) fun fr t H => ?_
  refine at_nil ?_
  obtain ⟨rfl, rfl⟩ := Cw hm
  refine ⟨.inr rfl, .tuple [], rH H, ?_⟩
  exact ⟨rfl, ⟨F, B, A⟩⟩
 ·obtain ⟨rfl, rfl⟩ := Cw hm
  exact ⟨.inl rfl, _, rH H, rfl, ⟨F, B, A⟩⟩
 exact hF.elim
def DZ (s : (List (List UInt8))) (v1 : (List UInt8)) : Option (((List (List UInt8))) ⊕ (Unit)) :=
 match s with
 | x2 => Aa (!(v1 == ([] : List UInt8))) (Em (Nd 16 (x2.length + ([v1] : List (List UInt8)).length)) <| some (.inl (x2 ++ ([v1] : List (List UInt8))))) (some (.inl x2))
def EH (p0 : List UInt8) : Option ((List (List UInt8))) :=
 (ED p0).bind fun x1_11 => (Cv (DZ) (.inl ([] : List (List UInt8))) x1_11).bind fun (x3, y1) => (match y1 with | .inl x2 => some x2 | .inr _ => none)
theorem G2 {p0 q0} (hm : EH p0 = some q0) (A : HH g h [] F) (hc : BF (cfg.still 56) av = [.str p0] := by kernel_rfl) : ∃ v h', BL cfg g h 56 av v h' ∧ v = vs eS q0 ∧ HH g h' [] F := by
 refine Xk 15 [.tmp 2] hc ?_
 clear hc
 unfold EH at hm
 refine bg 15 [(0, .str p0)] fun fr H => ?_
 refine AG 1 (Bc 1 [] 1 H fun fr H => ?_)
 obtain ⟨h1, e1, A⟩ := A.pu (.cells none 2 [.slice none 0])
 refine BB 3 (.ptr (some (h.size, 0))) e1 H fun fr t H => ?_
 refine BJ id (AQ (AG 2 ?_))
 obtain ⟨x1_11, hx, hm⟩ := bind_some hm
 obtain ⟨v1, h2, hr, bqw1_10, bqw1_11, bqw1_12, rfl, A1⟩ := Jy (av := [.str p0, .str ([47] : List UInt8)]) hx (A.cut 0)
 replace A : HH g h2 [.obj bqw1_10 (.cells none 2 [.str ([47] : List UInt8)]), .obj bqw1_11 (.cells none 2 [.str x1_11]), .obj bqw1_12 (.cells none 2 [Ai (0 : Int)]), .obj h.size (.cells none 2 [.slice none 0])] F := A.CY (n := 0) A1
 refine A0 1 [] 6 hr H fun fr t H => ?_
 refine BJ id (AV (id := 0) (by kernel_rfl) ?_)
 replace A : HH g h2 [.AI none 9 (AI eS ([] : List (List UInt8))), _, _, _, _] F := A.Kk 9
 replace A : HH g h2 [_, _, _, _, .obj h.size (.cells none 2 [AF none (([] : List (List UInt8)).length)])] F := (((((A.front 4 rfl).front 1 rfl).front 4 rfl).front 4 rfl).front 4 rfl)
 obtain ⟨⟨x3, y1⟩, ho, hm⟩ := bind_some hm
 refine PO (C := cfg) (x := .tmp 6) (ps := [7]) (f' := 227) (first := []) (cap := [.ptr (some (bqw1_10, 0)), .ptr (some (bqw1_11, 0)), .ptr (some (bqw1_12, 0))]) (Lu := [.obj bqw1_10 (.cells none 2 [.str ([47] : List UInt8)]), .obj bqw1_11 (.cells none 2 [.str x1_11]), .obj bqw1_12 (.cells none 2 [Ai 0])]) (Lc := [.AI none 9 (AI eS ([] : List (List UInt8))), .obj h.size (.cells none 2 [AF none (([] : List (List UInt8)).length)])]) (F := F) (ex := fun x => [.str x]) (Y := DZ) (PL := fun s Lc => ∃ (x2 : List (List UInt8)), x2 = s ∧ ∃ (r1 : Option Nat), Lc = [.AI r1 9 (AI eS x2), .obj h.size (.cells none 2 [AF r1 x2.length])]) (PR := fun r Lc => False) (pe := fun _ => .ret) (s := ([] : List (List UInt8))) (y := y1) (PU := fun L => L = [.obj bqw1_10 (.cells none 2 [.str ([47] : List UInt8)]), .obj bqw1_11 (.cells none 2 [.str x3]), .obj bqw1_12 (.cells none 2 [Ai 0])]) (by kernel_rfl) H (fun fr => by kernel_rfl) (by kernel_rfl) (fun _ => rfl) (by kernel_rfl) A ⟨([] : List (List UInt8)), rfl, none, rfl⟩ ?_ ?_ ?_ ?_ ?_
 ·refine MN H (kn := fun v1 => [(3, .ptr (some (h.size, 0))), (7, .str v1)]) (fun v1 fr => by kernel_rfl) ?_
  clear ho hm A H
  intro g h3 F s v1 o Lc fr H hP hm A
  obtain ⟨x2, rfl, r1, rfl⟩ := hP
  unfold DZ at hm
  show AW _ _ _ _ _ _ _
  refine Cy 1 (BV 1 [(3, .ptr (some (h.size, 0))), (4, .str v1)] H fun fr H => at_nil ?_)
  refine ⟨rfl, _, A, ?_⟩
  clear A
  intro h4 F A
  show AW _ _ _ _ _ _ _
  refine AV (id := 1) (by kernel_rfl) ?_
  refine AG 2 (AO 2 [(9, .bool (!(v1 == ([] : List UInt8))))] H fun fr H => Ad 9 H hm (fun hb hm H => ?_) fun hb hm H => ?_)
  ·refine Cy 5 (FK 10 1 0 A H fun fr t H => ?_)
   refine AK 1 [(11, .str v1)] H fun fr H => ?_
   obtain ⟨h5, e2, A⟩ := A.pL 9 [.str v1]
   refine BB 12 (AF (some h4.size) (([v1] : List (List UInt8)).length)) e2 H fun fr t H => ?_
   obtain ⟨hb, hm⟩ := BE hm
   obtain ⟨r2, h6, hx, A1⟩ := HH.Ko encS (by decide) A 1 (xs := x2) (ys := ([v1] : List (List UInt8))) rfl (Cu A 0 rfl (n := ([v1] : List (List UInt8)).length) (z := 1) rfl (by decide)) rfl rfl hb
   replace A : HH g h6 [.AI (some h4.size) 9 ([.str v1]), .AI r2 9 (AI eS (x2 ++ ([v1] : List (List UInt8)))), .obj h.size (.cells none 2 [AF r1 x2.length])] F := A1
   replace A := A.k2 1 2
   refine Aq 13 _ _ H (fun fr => .of (Hh (s := Cs r1 x2.length) (by kernel_rfl) hx)) fun fr t H => ?_
   obtain ⟨h7, hx, A1⟩ := A.st 1 rfl (o := 0) (new := [AF r2 ((x2 ++ ([v1] : List (List UInt8))).length)]) (ds := [AF r2 ((x2 ++ ([v1] : List (List UInt8))).length)]) (Nat.le_of_ble_eq_true rfl) rfl rfl
   replace A : HH g h7 [_, .obj h.size (.cells none 2 [AF r2 ((x2 ++ ([v1] : List (List UInt8))).length)])] F := A1
   refine GK hx H fun fr t H => ?_
   refine at_nil ?_
   have e1 := Option.some.inj hm
   subst e1
   exact ⟨rfl, _, ⟨(x2 ++ ([v1] : List (List UInt8))), rfl, r2, rfl⟩, A⟩
  refine FL ?_
  have e1 := Option.some.inj hm
  subst e1
  exact ⟨rfl, _, ⟨x2, rfl, r1, rfl⟩, A⟩
 ·intro h1 l F1 R hYR B A
  obtain ⟨v1, h2, hr, _, F2, B, A⟩ := Hj (av := [.Lx l, .ptr (some (bqw1_10, 0)), .ptr (some (bqw1_11, 0)), .ptr (some (bqw1_12, 0))]) ho (by kernel_rfl) hYR B A
  exact ⟨v1, h2, F2, _, hr, B, rfl, A⟩
 ·clear ho A
  intro s2 h8 Lc Lu ey hP hU A
  subst ey
  obtain ⟨x2, rfl, r1, rfl⟩ := hP
  subst hU
  replace A : HH g h8 [.obj bqw1_10 (.cells none 2 [.str ([47] : List UInt8)]), .obj bqw1_11 (.cells none 2 [.str x3]), .obj bqw1_12 (.cells none 2 [Ai 0]), .AI r1 9 (AI eS x2), .obj h.size (.cells none 2 [AF r1 x2.length])] F := A
  show AW _ _ _ _ _ _ _
  refine AG 2 (Rc (v := AF r1 x2.length) (h1 := h8) [(14, AF r1 x2.length)] H (fun fr => by kernel_rfl) (fun fr => .of (Da (by kernel_rfl) (A.l1 4 0))) ?_)
  intro fr t H
  refine AO 1 [(2, AF r1 x2.length)] H fun fr H => AU ?_
  obtain rfl := AY hm
  refine ⟨.inl rfl, AF r1 x2.length, rH H, ?_⟩
  obtain ⟨h9, hz0, A1⟩ := (A.front 3 rfl).Xc (n := x2.length) (z := 1) (encS.J9 _) (by decide)
  replace A : HH g h9 [_, _, _, _] F := A1
  refine ⟨vs eS x2, h9, by first | rfl | (simp only [I1, I4, JC, I5, JB, I2, I9, I7, I3, JA, I8, GY, GN, GQ, GW, GJ, GP, GL, Option.map_some, hz0] <;> rfl), ?_⟩
  replace A := A.d0
  exact ⟨rfl, A⟩
 ·clear ho A
  intro r2 h8 Lc Lu e ey he hP hU A
  subst ey
  subst hU
  exact False.elim hP
 exact fun _ => ⟨.ret, rfl⟩
def BQ (p0 : List (List UInt8)) (s : Int) : Option ((Int) ⊕ ((Unit) ⊕ (Int))) :=
 match s with
 | x1 => Aa (decide (x1 < (p0.length : Int))) ((Fc p0 x1).bind fun x3 => (G6 x3).bind fun x4 => Aa x4 (some (.inr (.inr x1))) (some (.inl (IntKind.i64.wrap (x1 + 1))))) (some (.inr (.inl ())))
def B7 (p0 : List (List UInt8)) : Option (Int) :=
 (loop (BQ p0) (0 : Int)).bind fun o1 => (match o1 with | .inl _ => some (-1 : Int) | .inr x2 => some x2)
theorem GA {p0 q0} (hm : B7 p0 = some q0) (A : HH g h [] F) (hc : BF (cfg.still 161) av = [vs eS p0, .func (.func 100) [] []] := by kernel_rfl) : ∃ v h', BL cfg g h 161 av v h' ∧ v = Ai q0 ∧ HH g h' [] F := by
 refine Dr 19 [.tmp 4] hc ?_
 clear hc
 unfold B7 at hm
 refine bg 19 [(0, vs eS p0), (1, .func (.func 100) [] [])] fun fr H => ?_
 refine AG 1 (AO 1 [] H fun fr H => AQ (AG 3 (AO 3 [(7, Ai (p0.length : Int)), (8, Ai 0)] H fun fr H => AV (id := 0) (by kernel_rfl) ?_)))
 obtain ⟨o1, ho, hm⟩ := bind_some hm
 refine Ax (Q' := fun e fr' h' => (e = .exit 0 ∧ .inl () = o1 ∧ Has fr' 19 [] ∧ HH g h' [] F) ∨ (∃ x2, e = .ret ∧ .inr x2 = o1 ∧ Has fr' 19 [(4, Ai x2)] ∧ HH g h' [] F) ∨ False) ?_ ?_
 ·refine Bh (by kernel_rfl) (fun (s : Int) fr' h' => ∃ x1, x1 = s ∧ Has fr' 19 [(0, vs eS p0), (1, .func (.func 100) [] []), (7, Ai (p0.length : Int)), (8, Ai x1)] ∧ HH g h' [] F) ho ⟨_, rfl, H.ls, A⟩ ?_
  clear ho hm H A
  intro s q fr h1 hI hm
  obtain ⟨x1, rfl, H, A⟩ := hI
  unfold BQ at hm
  refine AG 1 (AO 1 [(9, .bool (decide (x1 < (p0.length : Int))))] H fun fr H => AQ (Ad 9 H hm (fun hb hm H => ?_) fun hb hm H => ?_))
  ·refine Bf id (AQ (AV (id := 1) (by kernel_rfl) ?_))
   refine AG 2 (Bc 2 [(5, Ai x1)] 6 H fun fr H => ?_)
   obtain ⟨x3, hx, hm⟩ := bind_some hm
   refine Ap 3 [(11, .func (.func 100) [] [])] 14 (.A8 [.str x3]) h1 H (fun fr => .of (GC (e := eS) (x := x3) encS (by decide) (by kernel_rfl) hx)) fun fr t H => ?_
   refine Aq 15 (.str x3) h1 H (fun fr => .of (G0 (by kernel_rfl))) fun fr t H => ?_
   obtain ⟨x4, hx, hm⟩ := bind_some hm
   obtain ⟨v1, h2, hr, rfl, A1⟩ := OD (av := [.str x3]) hx (A.cut 0)
   replace A := A.EX A1
   refine BA 16 hr H fun fr t H => ?_
   refine BJ id (Ad 16 H hm (fun hb hm H => ?_) fun hb hm H => ?_)
   ·refine AG 2 (AO 2 [(4, Ai x1)] H fun fr H => AU ?_)
    exact nr hm fun e => Or.inr (.inl ⟨_, rfl, e, H.ls, A⟩)
   refine Fh 2 id (BV 2 [(0, vs eS p0), (1, .func (.func 100) [] []), (7, Ai (p0.length : Int)), (8, Ai (IntKind.i64.wrap (x1 + 1)))] H fun fr H => at_nil ?_)
   exact nx hm ⟨_, rfl, H.ls, A⟩
  refine BU (i := 0) (by kernel_rfl) ?_
  exact nr hm fun e => .inl ⟨rfl, e, H.ls, A⟩
 clear ho
 clear A
 intro e fr h3 hQ
 rcases hQ with ⟨rfl, rfl, H, A⟩ | ⟨x2, rfl, rfl, H, A⟩ | hF
 ·show AW _ _ _ _ _ _ _
  refine AG 1 (AO 1 [(4, Ai (-1))] H fun fr H => AU ?_)
  obtain rfl := AY hm
  exact ⟨.inl rfl, _, rH H, rfl, A⟩
 ·obtain rfl := AY hm
  exact ⟨.inl rfl, _, rH H, rfl, A⟩
 exact hF.elim
def DU (p0 : List (List UInt8)) (s : Int × Int) : Option ((Int × Int) ⊕ ((Int))) :=
 match s with
 | (x2, x3) => Aa (decide (x3 < (p0.length : Int))) (none) (some (.inr x2))
def Bj (p0 : List (List UInt8)) : Option ((List (List UInt8))) :=
 (B7 p0).bind fun x1 => Aa (x1 == (-1)) (some p0) ((loop (DU p0) (x1, IntKind.i64.wrap (x1 + 1))).bind fun x4 => none)
theorem Fs {p0 q0} (hm : Bj p0 = some q0) (A : HH g h [] F) (hc : BF (cfg.still 98) av = [vs eS p0, .func (.func 100) [] []] := by kernel_rfl) : ∃ v h', BL cfg g h 98 av v h' ∧ v = vs eS q0 ∧ HH g h' [] F := by
 refine Dr 42 [.tmp 4] hc ?_
 clear hc
 unfold Bj at hm
 refine bg 42 [(0, vs eS p0), (1, .func (.func 100) [] [])] fun fr H => ?_
 refine AG 1 (Bc 1 [] 4 H fun fr H => ?_)
 obtain ⟨x1, hx, hm⟩ := bind_some hm
 obtain ⟨v1, h1, hr, rfl, A1⟩ := GA (av := [vs eS p0, .func (.func 100) [] []]) hx (A.cut 0)
 replace A := A.EX A1
 refine A0 2 [] 10 hr H fun fr t H => ?_
 refine AO 1 [(5, Ai x1)] H fun fr H => AQ (AG 2 (AO 2 [(12, .bool (x1 == (-1)))] H fun fr H => Ad 12 H hm (fun hb hm H => ?_) fun hb hm H => ?_))
 ·refine AG 2 (AO 2 [(4, vs eS p0)] H fun fr H => AU ?_)
  obtain rfl := AY hm
  exact ⟨.inl rfl, _, rH H, rfl, A⟩
 refine Bf id (AQ (AG 3 (AO 3 [(6, Ai (IntKind.i64.wrap (x1 + 1)))] H fun fr H => AV (id := 0) (by kernel_rfl) ?_)))
 obtain ⟨o1, ho, hm⟩ := bind_some hm
 refine Ax (Q' := fun e fr' h' => (∃ x4, e = .exit 0 ∧ x4 = o1 ∧ Has fr' 42 [(0, vs eS p0), (5, Ai x4)] ∧ HH g h' [] F) ∨ False) ?_ ?_
 ·refine Bh (by kernel_rfl) (fun (s : Int × Int) fr' h' => ∃ x2 x3, (x2, x3) = s ∧ Has fr' 42 [(0, vs eS p0), (1, .func (.func 100) [] []), (5, Ai x2), (6, Ai x3)] ∧ HH g h' [] F) ho ⟨_, _, rfl, H.ls, A⟩ ?_
  clear ho hm H A
  intro s q fr h2 hI hm
  obtain ⟨x2, x3, rfl, H, A⟩ := hI
  unfold DU at hm
  refine AQ (AG 4 (AO 4 [(19, .bool (decide (x3 < (p0.length : Int))))] H fun fr H => Ad 19 H hm (fun hb hm H => ?_) fun hb hm H => ?_))
  ·refine Bf id (AQ ?_)
   cases hm
  refine BU (i := 0) (by kernel_rfl) ?_
  exact nr hm fun e => .inl ⟨_, rfl, e, H.ls, A⟩
 clear ho
 clear A
 intro e fr h3 hQ
 rcases hQ with ⟨x4, rfl, rfl, H, A⟩ | hF
 ·cases hm
 exact hF.elim
def EE (p0 : List (List UInt8)) : Option ((List UInt8)) :=
 Em (Nd 16 p0.length) <| (Bj p0).bind fun x1 => Em (RN x1 ([47] : List UInt8)) <| some (Lib.join x1 ([47] : List UInt8))
theorem Hd {p0 q0} (hm : EE p0 = some q0) (A : HH g h [] F) (hc : BF (cfg.still 57) av = [vs eS p0] := by kernel_rfl) : ∃ v h', BL cfg g h 57 av v h' ∧ v = .str q0 ∧ HH g h' [] F := by
 refine Dr 7 [.tmp 2] hc ?_
 clear hc
 unfold EE at hm
 refine bg 7 [(0, vs eS p0)] fun fr H => ?_
 refine AG 1 (Bc 1 [] 5 H fun fr H => ?_)
 have A1 := A.cut 0
 obtain ⟨hb, hm⟩ := BE hm
 refine Ap 1 [] 4 (vs eS p0) h H (fun fr => Steps.call (by kernel_rfl) (Gj (C := cfg) (f := 99) (a := 0) (t := 9) (xs := p0) encS (by decide) (by kernel_rfl) (l := exts) rfl (by kernel_rfl) (by kernel_rfl) rfl (K3 encS _ p0) (encS.BF _) hb)) fun fr t H => ?_
 obtain ⟨x1, hx, hm⟩ := bind_some hm
 obtain ⟨v1, h2, hr, rfl, A1⟩ := Fs (av := [vs eS p0, .func (.func 100) [] []]) hx (A.cut 0)
 replace A := A.EX A1
 refine BA 5 hr H fun fr t H => ?_
 obtain ⟨hb, hm⟩ := BE hm
 refine Aq 6 (.str (Lib.join x1 ([47] : List UInt8))) h2 H (fun fr => Steps.call (by kernel_rfl) (Uv (C := cfg) (f := 97) (xs := x1) (by kernel_rfl) (l := exts) rfl (by kernel_rfl) rfl (K3 encS _ x1) hb)) fun fr t H => ?_
 refine AO 1 [(2, .str (Lib.join x1 ([47] : List UInt8)))] H fun fr H => AU ?_
 obtain rfl := AY hm
 exact ⟨.inl rfl, _, rH H, rfl, A⟩
def Fw (p0 : List UInt8) : Option ((List UInt8) × Bool) :=
 (EH p0).bind fun x1 => Aa (decide ((x1.length : Int) < 2)) (some (([] : List UInt8), false)) ((Qb x1 none (some (IntKind.i64.wrap ((x1.length : Int) - 1)))).bind fun x2 => (EE x2).bind fun x3 => some (x3, true))
theorem N9 {p0 q0 q1} (hm : Fw p0 = some (q0, q1)) (A : HH g h [] F) (hc : BF (cfg.still 92) av = [.str p0] := by kernel_rfl) : ∃ v h', BL cfg g h 92 av v h' ∧ v = .tuple [.str q0, .bool q1] ∧ HH g h' [] F := by
 refine Dr 16 [.tmp 2, .tmp 3] hc ?_
 clear hc
 unfold Fw at hm
 refine bg 16 [(0, .str p0)] fun fr H => ?_
 refine AG 2 (Bc 2 [] 3 H fun fr H => ?_)
 obtain ⟨x1, hx, hm⟩ := bind_some hm
 obtain ⟨v1, h1, hr, rfl, A1⟩ := G2 (av := [.str p0]) hx (A.cut 0)
 replace A := A.EX A1
 refine A0 1 [] 6 hr H fun fr t H => ?_
 refine AO 1 [(4, vs eS x1)] H fun fr H => AQ (AG 3 (AO 3 [(9, .bool (decide ((x1.length : Int) < 2)))] H fun fr H => Ad 9 H hm (fun hb hm H => ?_) fun hb hm H => ?_))
 ·refine AG 2 (AO 2 [(2, .str ([] : List UInt8)), (3, .bool false)] H fun fr H => AU ?_)
  obtain ⟨rfl, rfl⟩ := Cw hm
  exact ⟨.inl rfl, _, rH H, rfl, A⟩
 refine Ce 8 id ?_
 obtain ⟨x2, hx, hm⟩ := bind_some hm
 refine Ap 4 [] 14 (vs eS x2) h1 H (fun fr => .of (S7 (e := eS) encS (k := .i64) (k' := .i64) (lo := none) (hi := (some (IntKind.i64.wrap ((x1.length : Int) - 1)))) (by kernel_rfl) hx)) fun fr t H => ?_
 obtain ⟨x3, hx, hm⟩ := bind_some hm
 obtain ⟨v1, h2, hr, rfl, A1⟩ := Hd (av := [vs eS x2]) hx (A.cut 0)
 replace A := A.EX A1
 refine BA 15 hr H fun fr t H => ?_
 refine AO 2 [(2, .str x3), (3, .bool true)] H fun fr H => AU ?_
 obtain ⟨rfl, rfl⟩ := Cw hm
 exact ⟨.inl rfl, _, rH H, rfl, A⟩
def E6 (p0 : List UInt8) (p1 : Int) (p2 : List UInt8) : Option ((List UInt8) × Bool) :=
 (Aa (p1 != 48) (some true) ((F6 p0).bind fun x2 => some (!(x2 == ([67, 65, 67, 72, 69, 68, 73, 82, 46, 84, 65, 71] : List UInt8)))) : Option (Bool)).bind fun x1 => (Aa x1 (some true) ((Ch p2 ([83, 105, 103, 110, 97, 116, 117, 114, 101, 58, 32, 56, 97, 52, 55, 55, 102, 53, 57, 55, 100, 50, 56, 100, 49, 55, 50, 55, 56, 57, 102, 48, 54, 56, 56, 54, 56, 48, 54, 98, 99, 53, 53] : List UInt8)).bind fun x4 => some (!x4)) : Option (Bool)).bind fun x3 => Aa x3 (some (([] : List UInt8), false)) ((Fw p0).bind fun (x5, x6) => some (x5, true))
theorem Kg {p0 p1 p2 q0 q1} (hm : E6 p0 p1 p2 = some (q0, q1)) (A : HH g h [] F) (hc : BF (cfg.still 50) av = [.str p0, Ab p1, .str p2] := by kernel_rfl) : ∃ v h', BL cfg g h 50 av v h' ∧ v = .tuple [.str q0, .bool q1] ∧ HH g h' [] F := by
 refine Dr 28 [.tmp 6, .tmp 7] hc ?_
 clear hc
 unfold E6 at hm
 refine bg 28 [(0, .str p0), (1, Ab p1), (2, .str p2)] fun fr H => ?_
 refine AG 2 (AO 2 [] H fun fr H => AQ (AG 12 (AK 3 [(12, .bool (p1 != 48))] H fun fr H => ?_)))
 obtain ⟨x1, ho, hm⟩ := bind_some hm
 refine A9 4 (fun fr' h' => Has fr' 28 [(0, .str p0), (2, .str p2), (16, .bool x1)] ∧ HH g h' [] F) ?_ ?_
 ·rcases AX ho with ⟨hb, hm⟩ | ⟨hb, hm⟩
  ·replace H := H.kn 12 hb
   refine AK 4 [(16, .bool true)] H fun fr H => ?_
   obtain rfl := AY hm
   exact at_nil ⟨H.ls, A⟩
  replace H := H.kn 12 hb
  obtain ⟨x2, hx, hm⟩ := bind_some hm
  obtain ⟨v1, h2, hr, rfl, A1⟩ := MA (av := [.str p0]) hx (A.cut 0)
  replace A := A.EX A1
  refine A0 1 [] 14 hr H fun fr t H => ?_
  refine AK 2 [(16, .bool (!(x2 == ([67, 65, 67, 72, 69, 68, 73, 82, 46, 84, 65, 71] : List UInt8))))] H fun fr H => ?_
  obtain rfl := AY hm
  exact at_nil ⟨H.ls, A⟩
 clear A
 intro t fr h1 hK
 obtain ⟨H, A⟩ := hK
 refine AK 1 [(17, .bool x1)] H fun fr H => ?_
 obtain ⟨x3, ho, hm⟩ := bind_some hm
 refine A9 4 (fun fr' h' => Has fr' 28 [(0, .str p0), (21, .bool x3)] ∧ HH g h' [] F) ?_ ?_
 ·rcases AX ho with ⟨hb, hm⟩ | ⟨hb, hm⟩
  ·replace H := H.kn 17 hb
   refine AK 4 [(21, .bool true)] H fun fr H => ?_
   obtain rfl := AY hm
   exact at_nil ⟨H.ls, A⟩
  replace H := H.kn 17 hb
  obtain ⟨x4, hx, hm⟩ := bind_some hm
  obtain ⟨v1, h4, hr, rfl, A1⟩ := Ft (av := [.str p2, .str ([83, 105, 103, 110, 97, 116, 117, 114, 101, 58, 32, 56, 97, 52, 55, 55, 102, 53, 57, 55, 100, 50, 56, 100, 49, 55, 50, 55, 56, 57, 102, 48, 54, 56, 56, 54, 56, 48, 54, 98, 99, 53, 53] : List UInt8)]) hx (A.cut 0)
  replace A := A.EX A1
  refine A0 1 [] 19 hr H fun fr t H => ?_
  refine AK 2 [(21, .bool (!x4))] H fun fr H => ?_
  obtain rfl := AY hm
  exact at_nil ⟨H.ls, A⟩
 clear A
 intro t fr h3 hK
 obtain ⟨H, A⟩ := hK
 refine BJ id (Ad 21 H hm (fun hb hm H => ?_) fun hb hm H => ?_)
 ·refine AG 2 (AO 2 [(6, .str ([] : List UInt8)), (7, .bool false)] H fun fr H => AU ?_)
  obtain ⟨rfl, rfl⟩ := Cw hm
  exact ⟨.inl rfl, _, rH H, rfl, A⟩
 refine Ce 7 id ?_
 obtain ⟨⟨x5, x6⟩, hx, hm⟩ := bind_some hm
 obtain ⟨v1, h5, hr, rfl, A1⟩ := N9 (av := [.str p0]) hx (A.cut 0)
 replace A := A.EX A1
 refine A0 1 [] 24 hr H fun fr t H => ?_
 refine Bc 5 [(8, .str x5)] 3 H fun fr H => AO 3 [(6, .str x5), (7, .bool true)] H fun fr H => AU ?_
 obtain ⟨rfl, rfl⟩ := Cw hm
 exact ⟨.inl rfl, _, rH H, rfl, A⟩
def C2 (p0 : Ay) (p1 : List UInt8) : Option ((List ((List UInt8) × Bool))) :=
 (EH p1).bind fun x1 => (EE x1).bind fun x2 => some (F7 p0.Cf x2 true)
theorem HN {p0 p1 bp0 bp0_0 u1} (hm : C2 p0 p1 = some u1) (A : HH g h [.obj bp0 (.cells none 2 [.map (some bp0_0)]), .obj bp0_0 (.map 2 (BS (fun k : List UInt8 => .str k) (fun v : Bool => .bool v) p0.Cf))] F) (hc : BF (cfg.still 47) av = [.ptr (some (bp0, 0)), .str p1] := by kernel_rfl) : ∃ v h', BL cfg g h 47 av v h' ∧ v = .tuple [] ∧ HH g h' [.obj bp0 (.cells none 2 [.map (some bp0_0)]), .obj bp0_0 (.map 2 (BS (fun k : List UInt8 => .str k) (fun v : Bool => .bool v) u1))] F := by
 refine Dr 11 [] hc ?_
 clear hc
 unfold C2 at hm
 refine bg 11 [(0, .ptr (some (bp0, 0))), (1, .str p1)] fun fr H => ?_
 refine L0 0 8 [(0, []), (1, []), (2, []), (3, []), (4, []), (5, [3]), (6, [3]), (7, [])] ?_
 refine AK 3 [(6, .ptr (some (bp0, 0)))] H fun fr H => DE 7 (.map (some bp0_0)) h [(3, bp0)] (g.Bq) H (fun fr => .of (Da (by kernel_rfl) (A.l1 0 0))) (fun fr H => ?_)
 refine AK 1 [(8, .str p1)] H fun fr H => ?_
 have A1 := A.J1 0 (pr := [bp0]) (.cons 0 rfl (by simp [Ck.ids]) .nil)
 obtain ⟨x1, hx, hm⟩ := bind_some hm
 obtain ⟨v1, h1, hr, rfl, A1⟩ := G2 (av := [.str p1]) hx A1
 replace A := A.X0 A1
 refine DE 9 (vs eS x1) h1 [(3, bp0)] (bp0 :: g.Bq) H (fun fr => Steps.call (by kernel_rfl) hr) (fun fr H => ?_)
 have A1 := A.J1 0 (pr := [bp0]) (.cons 0 rfl (by simp [Ck.ids]) .nil)
 obtain ⟨x2, hx, hm⟩ := bind_some hm
 obtain ⟨v1, h2, hr, rfl, A1⟩ := Hd (av := [vs eS x1]) hx A1
 replace A := A.X0 A1
 refine DE 10 (.str x2) h2 [(3, bp0)] (bp0 :: g.Bq) H (fun fr => Steps.call (by kernel_rfl) hr) (fun fr H => ?_)
 obtain ⟨h3, hx, A1⟩ := HH.V5 (kt := 9) (et := 4) (ek := fun k : List UInt8 => .str k) (ev := fun v : Bool => .bool v) (Rk (by kernel_rfl)) A 1 rfl (t := 115) (by kernel_rfl) x2 true
 replace A : HH g h3 [_, .obj bp0_0 (.map 2 (BS (fun k : List UInt8 => .str k) (fun v : Bool => .bool v) (F7 p0.Cf x2 true)))] F := A1
 refine Kv (.tuple []) h3 [(3, bp0)] (g.Bq) H (fun fr => .of (UG (by kernel_rfl) hx)) (fun fr H => ?_)
 refine at_nil ?_
 obtain rfl := AY hm
 refine ⟨.inr rfl, .tuple [], rH H, ?_⟩
 exact ⟨rfl, A⟩
def Hg (p0 : List AN) (s : (List ((List UInt8) × Bool)) × Int) : Option (((List ((List UInt8) × Bool)) × Int) ⊕ (((List ((List UInt8) × Bool))))) :=
 match s with
 | (x2, x3) => Aa (decide (x3 < (p0.length : Int))) (((Fc p0 x3).bind fun x6 => (E6 x6.Name x6.Kind x6.Data).bind fun (x7, x8) => Aa x8 ((C2 (⟨x2⟩ : Ay) x7).bind fun x9 => some x9) (some x2) : Option (((List ((List UInt8) × Bool))))).bind fun x5 => some (.inl (x5, IntKind.i64.wrap (x3 + 1)))) (some (.inr x2))
def HA (p0 : List AN) : Option (Ay) :=
 (Fm).bind fun x1w1 => (loop (Hg p0) (x1w1.Cf, (0 : Int))).bind fun x4 => some (⟨x4⟩ : Ay)
theorem MT {p0 rp0 q00} (hm : HA p0 = some q00) (A : HH g h [.AI rp0 44 (AI AD p0)] F) (hc : BF (cfg.still 23) av = [AF rp0 p0.length] := by kernel_rfl) : ∃ v h', BL cfg g h 23 av v h' ∧ ∃ (bq00 : Nat) (bq00_0 : Nat), v = .ptr (some (bq00, 0)) ∧ HH g h' [.obj bq00 (.cells none 2 [.map (some bq00_0)]), .obj bq00_0 (.map 2 (BS (fun k : List UInt8 => .str k) (fun v : Bool => .bool v) q00.Cf)), .AI rp0 44 (AI AD p0)] F := by
 refine Dr 31 [.tmp 2] hc ?_
 clear hc
 unfold HA at hm
 refine bg 31 [(0, AF rp0 p0.length)] fun fr H => ?_
 refine AG 1 (Bc 1 [] 2 H fun fr H => ?_)
 obtain ⟨x1w1, hx, hm⟩ := bind_some hm
 obtain ⟨v1, h1, hr, bx1w1, bx1w1_0, rfl, A1⟩ := Kc (av := []) hx (A.cut 0)
 replace A := A.YE A1
 refine BA 8 hr H fun fr t H => ?_
 refine AO 1 [(3, .ptr (some (bx1w1, 0)))] H fun fr H => AQ (AG 3 (AO 3 [(9, AF rp0 p0.length), (10, Ai (p0.length : Int)), (11, Ai 0)] H fun fr H => AV (id := 0) (by kernel_rfl) ?_))
 obtain ⟨o1, ho, hm⟩ := bind_some hm
 refine Ax (Q' := fun e fr' h' => (∃ x4, e = .exit 0 ∧ x4 = o1 ∧ Has fr' 31 [(3, .ptr (some (bx1w1, 0)))] ∧ HH g h' [.obj bx1w1 (.cells none 2 [.map (some bx1w1_0)]), .obj bx1w1_0 (.map 2 (BS (fun k : List UInt8 => .str k) (fun v : Bool => .bool v) x4)), .AI rp0 44 (AI AD p0)] F) ∨ False) ?_ ?_
 ·refine Bh (by kernel_rfl) (fun (s : (List ((List UInt8) × Bool)) × Int) fr' h' => ∃ x2 x3, (x2, x3) = s ∧ Has fr' 31 [(3, .ptr (some (bx1w1, 0))), (9, AF rp0 p0.length), (10, Ai (p0.length : Int)), (11, Ai x3)] ∧ HH g h' [.obj bx1w1 (.cells none 2 [.map (some bx1w1_0)]), .obj bx1w1_0 (.map 2 (BS (fun k : List UInt8 => .str k) (fun v : Bool => .bool v) x2)), .AI rp0 44 (AI AD p0)] F) ho ⟨_, _, rfl, H.ls, A⟩ ?_
  clear ho hm H A
  intro s q fr h2 hI hm
  obtain ⟨x2, x3, rfl, H, A⟩ := hI
  unfold Hg at hm
  refine AG 1 (AO 1 [(12, .bool (decide (x3 < (p0.length : Int))))] H fun fr H => AQ (Ad 12 H hm (fun hb hm H => ?_) fun hb hm H => ?_))
  ·refine Bf id (AQ ?_)
   obtain ⟨o2, ho, hm⟩ := bind_some hm
   refine Ax (Q' := fun e fr' h' => (∃ x5, e = .normal ∧ x5 = o2 ∧ Has fr' 31 [(3, .ptr (some (bx1w1, 0))), (9, AF rp0 p0.length), (10, Ai (p0.length : Int)), (11, Ai x3)] ∧ HH g h' [.obj bx1w1 (.cells none 2 [.map (some bx1w1_0)]), .obj bx1w1_0 (.map 2 (BS (fun k : List UInt8 => .str k) (fun v : Bool => .bool v) x5)), .AI rp0 44 (AI AD p0)] F) ∨ False) ?_ ?_
   ·replace hm := ho
    clear ho
    refine AV (id := 1) (by kernel_rfl) ?_
    refine AG 4 ?_
    obtain ⟨x6, hx, hm⟩ := bind_some hm
    obtain ⟨i1, er1, _, hx, hq1⟩ := HH.Kn Bg (by decide) A 2 (xs := p0) rfl hx
    refine Aq 13 (.ptr (some (i1, x3.toNat * 14))) h2 H (fun fr => .of (Dc (s := Cs rp0 p0.length) (by kernel_rfl) hx)) fun fr t H => ?_
    refine Aq 14 _ _ H (fun fr => .of (CG (by kernel_rfl) (KE Bg (HH.row A 2 rfl er1) hq1 0 14 (Nat.le_of_ble_eq_true rfl)))) fun fr t H => ?_
    obtain ⟨h3, e1, A⟩ := A.pu (.cells none 2 [.str ([] : List UInt8), .str ([] : List UInt8), Ab 0, Ai 0, Ai 0, Ai 0, .str ([] : List UInt8), .str ([] : List UInt8), Ai 0, Ai 0, Ai 0, Ai 0, .slice none 0, .str ([] : List UInt8)])
    refine BB 5 (.ptr (some (h2.size, 0))) e1 H fun fr t H => ?_
    obtain ⟨h4, hx, A⟩ := A.s0 0 (AD x6) [_, _, _, _, _, _, _, _, _, _, _, _, _, _]
    refine F4 hx H fun fr t H => ?_
    refine CX 12 id (Ag 1 [] 17 0 0 A H fun fr t H => ?_)
    refine Ag 1 [] 19 0 2 A H fun fr t H => ?_
    refine Ag 1 [] 21 0 13 A H fun fr t H => ?_
    obtain ⟨⟨x7, x8⟩, hx, hm⟩ := bind_some hm
    obtain ⟨v1, h5, hr, rfl, A1⟩ := Kg (av := [.str x6.Name, Ab x6.Kind, .str x6.Data]) hx (A.cut 0)
    replace A := A.EX A1
    refine BA 22 hr H fun fr t H => ?_
    refine Bc 5 [(6, .str x7), (7, .bool x8)] 1 H fun fr H => AO 1 [(25, .bool x8)] H fun fr H => Ad 25 H hm (fun hb hm H => ?_) fun hb hm H => ?_
    ·refine Cy 3 ?_
     replace A := A.k4 1 2 0 3
     obtain ⟨x9, hx, hm⟩ := bind_some hm
     obtain ⟨v1, h6, hr, rfl, A1⟩ := HN (av := [.ptr (some (bx1w1, 0)), .str x7]) hx (A.cut 2)
     replace A := A.g22 A1
     refine Qk 2 [] hr H fun fr t H => ?_
     refine at_nil ?_
     replace A := A.k3 0 1 3
     exact .inl ⟨_, rfl, AY hm, H.ls, A⟩
    refine FL ?_
    replace A := A.k3 1 2 3
    exact .inl ⟨_, rfl, AY hm, H.ls, A⟩
   clear ho
   clear A
   intro e fr h7 hQ
   rcases hQ with ⟨x5, rfl, rfl, H, A⟩ | hF
   ·show AW _ _ _ _ _ _ _
    refine Cy 2 (BV 2 [(3, .ptr (some (bx1w1, 0))), (9, AF rp0 p0.length), (10, Ai (p0.length : Int)), (11, Ai (IntKind.i64.wrap (x3 + 1)))] H fun fr H => at_nil ?_)
    exact nx hm ⟨_, _, rfl, H.ls, A⟩
   exact hF.elim
  refine BU (i := 0) (by kernel_rfl) ?_
  exact nr hm fun e => .inl ⟨_, rfl, e, H.ls, A⟩
 clear ho
 clear A
 intro e fr h8 hQ
 rcases hQ with ⟨x4, rfl, rfl, H, A⟩ | hF
 ·show AW _ _ _ _ _ _ _
  refine AG 2 (AO 2 [(2, .ptr (some (bx1w1, 0)))] H fun fr H => AU ?_)
  obtain rfl := AY hm
  exact ⟨.inl rfl, _, rH H, _, _, rfl, A⟩
 exact hF.elim
def Iw (p0 : List UInt8) : Option ((List UInt8)) :=
 (CW p0).bind fun x1 => Aa (!(x1 == ([] : List UInt8))) (some x1) (some p0)
theorem OE {p0 q0} (hm : Iw p0 = some q0) (A : HH g h [] F) (hc : BF (cfg.still 199) av = [.str p0] := by kernel_rfl) : ∃ v h', BL cfg g h 199 av v h' ∧ v = .str q0 ∧ HH g h' [] F := by
 refine Dr 10 [.tmp 2] hc ?_
 clear hc
 unfold Iw at hm
 refine bg 10 [(0, .str p0)] fun fr H => ?_
 refine AG 1 (AO 1 [] H fun fr H => AQ (AG 3 ?_))
 obtain ⟨x1, hx, hm⟩ := bind_some hm
 obtain ⟨v1, h1, hr, rfl, A1⟩ := GI (av := [.str p0, .str ([47] : List UInt8)]) hx (A.cut 0)
 replace A := A.EX A1
 refine A0 1 [] 5 hr H fun fr t H => ?_
 refine Bc 1 [(3, .str x1)] 2 H fun fr H => AO 2 [(7, .bool (!(x1 == ([] : List UInt8))))] H fun fr H => Ad 7 H hm (fun hb hm H => ?_) fun hb hm H => ?_
 ·refine AG 2 (AO 2 [(2, .str x1)] H fun fr H => AU ?_)
  obtain rfl := AY hm
  exact ⟨.inl rfl, _, rH H, rfl, A⟩
 refine Ce 2 id (AO 2 [(2, .str p0)] H fun fr H => AU ?_)
 obtain rfl := AY hm
 exact ⟨.inl rfl, _, rH H, rfl, A⟩
def En (p0 : Ah) (p1 : List UInt8) : Option (Ah × (List UInt8)) :=
 some (p0, p1)
theorem I6 {p0 p1 q0_10 q0_11} (hm : En p0 p1 = some (q0_10, q0_11)) (A : HH g h [] F) (hc : BF (cfg.still 200) av = [.A8 (AB p0), .str p1] := by kernel_rfl) : ∃ v h', BL cfg g h 200 av v h' ∧ ∃ (bq0_10 : Nat) (bq0_11 : Nat), v = .func (.func 263) [] [.ptr (some (bq0_10, 0)), .ptr (some (bq0_11, 0))] ∧ HH g h' [.obj bq0_10 (.cells none 2 [.A8 (AB q0_10)]), .obj bq0_11 (.cells none 2 [.str q0_11])] F := by
 refine Dr 6 [.tmp 4] hc ?_
 clear hc
 unfold En at hm
 refine bg 6 [(0, .A8 (AB p0)), (1, .str p1)] fun fr H => ?_
 refine AG 3 ?_
 obtain ⟨h1, e1, A⟩ := A.pu (.cells none 2 [.A8 (AB p0)])
 refine BB 2 (.ptr (some (h.size, 0))) e1 H fun fr t H => ?_
 obtain ⟨h2, e2, A⟩ := A.pu (.cells none 2 [.str p1])
 refine BB 3 (.ptr (some (h1.size, 0))) e2 H fun fr t H => ?_
 refine Bc 1 [] 2 H fun fr H => AO 2 [(4, .func (.func 263) [] [.ptr (some (h.size, 0)), .ptr (some (h1.size, 0))])] H fun fr H => AU ?_
 obtain ⟨rfl, rfl⟩ := Cw hm
 refine ⟨.inl rfl, .func (.func 263) [] [.ptr (some (h.size, 0)), .ptr (some (h1.size, 0))], rH H, ?_⟩
 replace A : HH g h2 [.obj h.size (.cells none 2 [.A8 (AB p0)]), .obj h1.size (.cells none 2 [.str p1])] F := ((A.front 0 rfl).front 1 rfl)
 exact ⟨h.size, h1.size, rfl, A⟩
def ER {SY RY : Type} (Y : SY → Int → Option (SY ⊕ RY)) (p2 : List UInt8) (s : Int × (SY ⊕ RY)) : Option ((Int × (SY ⊕ RY)) ⊕ (((SY ⊕ RY)) ⊕ ((SY ⊕ RY)))) :=
 match s with
 | (x2, y2) => Aa (decide (x2 < (p2.length : Int))) ((RD p2 x2).bind fun x3 => (Aa (x3 == 47) ((T0 Y y2 (IntKind.i64.wrap (x2 + 1))).bind fun (x5, y6) => some (!x5, y6)) (some (false, y2)) : Option (Bool × (SY ⊕ RY))).bind fun (x4, y5) => Aa x4 (some (.inr (.inr y5))) (some (.inl (IntKind.i64.wrap (x2 + 1), y5)))) (some (.inr (.inl y2)))
def DR {SY RY : Type} (Y : SY → Int → Option (SY ⊕ RY)) (y : SY ⊕ RY) (p1 : Ah) (p2 : List UInt8) : Option ((SY ⊕ RY)) :=
 (T0 Y y (0 : Int)).bind fun (x1, y1) => Aa ((!x1) || p1.r_.B2) (some y1) ((loop (ER Y p2) ((0 : Int), y1)).bind fun o1 => (match o1 with | .inl y3 => some y3 | .inr y4 => some y4))
theorem Gy {SY RY : Type} {R : SY ⊕ RY → List Ck → Prop} {Y : SY → Int → Option (SY ⊕ RY)} {y : SY ⊕ RY} {p1 p2 l bp1 bp2} {yq : SY ⊕ RY} (hm : DR Y y p1 p2 = some yq) (hc : BF (cfg.still 263) av = [.Lx l, .ptr (some (bp1, 0)), .ptr (some (bp2, 0))]) (hYR : YR cfg g l (fun x => [Ai x]) Y R) (B : R y F) (A : HH g h [.obj bp1 (.cells none 2 [.A8 (AB p1)]), .obj bp2 (.cells none 2 [.str p2])] F) : ∃ v h', BL cfg g h 263 av v h' ∧ v = .tuple [] ∧ ∃ F, R yq F ∧ HH g h' [.obj bp1 (.cells none 2 [.A8 (AB p1)]), .obj bp2 (.cells none 2 [.str p2])] F := by
 refine Dr 32 [] hc ?_
 clear hc
 unfold DR at hm
 refine bg 32 [(0, .Lx l), (1, .ptr (some (bp1, 0))), (2, .ptr (some (bp2, 0)))] fun fr H => ?_
 refine AQ (AG 10 ?_)
 obtain ⟨⟨x1, y1⟩, hx, hm⟩ := bind_some hm
 obtain ⟨h1, F, hr, B, A⟩ := hYR.T0 (pr := []) .nil A B hx
 refine Ap 1 [] 6 (.bool x1) h1 H (fun fr => Steps.round (by kernel_rfl) hr) fun fr t H => ?_
 refine AK 2 [(8, .bool (!x1))] H fun fr H => A9 6 (fun fr' h' => h1 = h' ∧ Has fr' 32 [(0, .Lx l), (2, .ptr (some (bp2, 0))), (14, .bool ((!x1) || p1.r_.B2))]) ?_ ?_
 ·cases hb : (!x1 : Bool) with
  | true =>
   replace H := H.kn 8 hb
   exact AK 6 [(14, .bool true)] H fun fr H => BH H hb
  | false =>
   replace H := H.kn 8 hb
   refine FK 9 0 0 A H fun fr t H => ?_
   refine Ap 3 [] 13 (.bool p1.r_.B2) h1 H (fun fr => .of (G0 (by kernel_rfl))) fun fr t H => ?_
   exact AK 1 [(14, .bool p1.r_.B2)] H fun fr H => BH H hb
 intro t fr h' hK
 obtain ⟨e, H⟩ := hK
 subst e
 refine BJ id (Ad 14 H hm (fun hb hm H => ?_) fun hb hm H => ?_)
 ·refine AU ?_
  obtain rfl := AY hm
  exact ⟨.inl rfl, _, rH H, rfl, ⟨F, B, A⟩⟩
 refine Ce 3 id (FK 15 1 0 A H fun fr t H => ?_)
 refine AO 2 [(16, Ai (p2.length : Int)), (17, Ai 0)] H fun fr H => AV (id := 0) (by kernel_rfl) ?_
 obtain ⟨o1, ho, hm⟩ := bind_some hm
 refine Ax (Q' := fun e fr' h' => (∃ (y3 : SY ⊕ RY), e = .exit 0 ∧ .inl y3 = o1 ∧ Has fr' 32 [] ∧ ∃ F, R y3 F ∧ HH g h' [.obj bp1 (.cells none 2 [.A8 (AB p1)]), .obj bp2 (.cells none 2 [.str p2])] F) ∨ (∃ (y4 : SY ⊕ RY), e = .ret ∧ .inr y4 = o1 ∧ Has fr' 32 [] ∧ ∃ F, R y4 F ∧ HH g h' [.obj bp1 (.cells none 2 [.A8 (AB p1)]), .obj bp2 (.cells none 2 [.str p2])] F) ∨ False) ?_ ?_
 ·refine Bh (by kernel_rfl) (fun (s : Int × (SY ⊕ RY)) fr' h' => ∃ x2, ∃ (y2 : SY ⊕ RY), (x2, y2) = s ∧ Has fr' 32 [(0, .Lx l), (2, .ptr (some (bp2, 0))), (16, Ai (p2.length : Int)), (17, Ai x2)] ∧ ∃ F, R y2 F ∧ HH g h' [.obj bp1 (.cells none 2 [.A8 (AB p1)]), .obj bp2 (.cells none 2 [.str p2])] F) ho ⟨(0 : Int), y1, rfl, H.ls, ⟨F, B, A⟩⟩ ?_
  clear ho hm H A
  intro s q fr h2 hI hm
  obtain ⟨x2, y2, rfl, H, ⟨F, B, A⟩⟩ := hI
  unfold ER at hm
  refine AG 1 (AO 1 [(18, .bool (decide (x2 < (p2.length : Int))))] H fun fr H => AQ (Ad 18 H hm (fun hb hm H => ?_) fun hb hm H => ?_))
  ·refine Bf id (AQ (AV (id := 1) (by kernel_rfl) ?_))
   refine AG 2 (Bc 2 [(4, Ai x2)] 11 H fun fr H => FK 20 1 0 A H fun fr t H => ?_)
   obtain ⟨x3, hx, hm⟩ := bind_some hm
   refine Ap 1 [] 22 (Ab x3) h2 H (fun fr => .of (JG (by kernel_rfl) hx)) fun fr t H => ?_
   refine AK 2 [(24, .bool (x3 == 47))] H fun fr H => ?_
   obtain ⟨⟨x4, y5⟩, ho, hm⟩ := bind_some hm
   refine A9 6 (fun fr' h' => Has fr' 32 [(0, .Lx l), (2, .ptr (some (bp2, 0))), (16, Ai (p2.length : Int)), (17, Ai x2), (30, .bool x4)] ∧ ∃ F, R y5 F ∧ HH g h' [.obj bp1 (.cells none 2 [.A8 (AB p1)]), .obj bp2 (.cells none 2 [.str p2])] F) ?_ ?_
   ·rcases AX ho with ⟨hb, hm⟩ | ⟨hb, hm⟩
    ·replace H := H.kn 24 hb
     obtain ⟨⟨x5, y6⟩, hx, hm⟩ := bind_some hm
     obtain ⟨h4, F, hr, B, A⟩ := hYR.T0 (pr := []) .nil A B hx
     refine Ap 3 [] 28 (.bool x5) h4 H (fun fr => Steps.round (by kernel_rfl) hr) fun fr t H => ?_
     refine AK 2 [(30, .bool (!x5))] H fun fr H => ?_
     obtain ⟨rfl, rfl⟩ := Cw hm
     exact at_nil ⟨H.ls, ⟨F, B, A⟩⟩
    replace H := H.kn 24 hb
    refine AK 6 [(30, .bool false)] H fun fr H => ?_
    obtain ⟨rfl, rfl⟩ := Cw hm
    exact at_nil ⟨H.ls, ⟨F, B, A⟩⟩
   clear A
   intro t fr h3 hK
   obtain ⟨H, ⟨F, B, A⟩⟩ := hK
   refine BJ id (Ad 30 H hm (fun hb hm H => ?_) fun hb hm H => ?_)
   ·refine AU ?_
    exact nr hm fun e => Or.inr (.inl ⟨y5, rfl, e, H.ls, ⟨F, B, A⟩⟩)
   refine Fh 2 id (BV 2 [(0, .Lx l), (2, .ptr (some (bp2, 0))), (16, Ai (p2.length : Int)), (17, Ai (IntKind.i64.wrap (x2 + 1)))] H fun fr H => at_nil ?_)
   exact nx hm ⟨IntKind.i64.wrap (x2 + 1), y5, rfl, H.ls, ⟨F, B, A⟩⟩
  refine BU (i := 0) (by kernel_rfl) ?_
  exact nr hm fun e => .inl ⟨y2, rfl, e, H.ls, ⟨F, B, A⟩⟩
 clear ho
 clear A
 intro e fr h5 hQ
 rcases hQ with ⟨y3, rfl, rfl, H, ⟨F, B, A⟩⟩ | ⟨y4, rfl, rfl, H, ⟨F, B, A⟩⟩ | hF
 ·obtain rfl := AY hm
  refine ⟨.inr rfl, .tuple [], rH H, ?_⟩
  exact ⟨rfl, ⟨F, B, A⟩⟩
 ·obtain rfl := AY hm
  exact ⟨.inl rfl, _, rH H, rfl, ⟨F, B, A⟩⟩
 exact hF.elim
def FO (p0 : List UInt8) : Option (Bool) :=
 some (!(p0 == p0))
theorem IA {p0 q0} (hm : FO p0 = some q0) (A : HH g h [] F) (hc : BF (cfg.still 278) av = [.str p0] := by kernel_rfl) : ∃ v h', BL cfg g h 278 av v h' ∧ v = .bool q0 ∧ HH g h' [] F := by
 refine Dr 6 [.tmp 2] hc ?_
 clear hc
 unfold FO at hm
 refine bg 6 [(0, .str p0)] fun fr H => ?_
 refine AG 1 (Bc 1 [] 4 H fun fr H => AO 4 [(2, .bool (!(p0 == p0)))] H fun fr H => AU ?_)
 obtain rfl := AY hm
 exact ⟨.inl rfl, _, rH H, rfl, A⟩
end
end Go.Av.L
