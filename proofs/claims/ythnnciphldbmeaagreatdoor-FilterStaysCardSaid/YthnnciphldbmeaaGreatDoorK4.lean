/-
 Models of functions, and that the abstract run tells them. Written by lift2.py.
-/
import Derived.Test.YthnnciphldbmeaaGreatDoorKCfg
import Derived.Test.YthnnciphldbmeaaGreatDoorK3
namespace Go.Av.L
open Go.Av Go.Lib
set_option maxRecDepth 10000
set_option maxHeartbeats 4000000
set_option linter.unusedVariables false
set_option linter.unusedSimpArgs false
variable {g : Gd} {h : AM} {F : List Ck} {av : List AD}
noncomputable section
def ER (p0 : Int) (p1 : Bool) (p2 : List Int) : Option ((List Int)) :=
 Af p1 (Fh (Np 8 (p2.length + ([p0] : List Int).length)) <| some (p2 ++ ([p0] : List Int))) (some p2)
theorem H3 {p0 p1 p2 bp2 rp2_0 u1} (hm : ER p0 p1 p2 = some u1) (A : HH g h [.obj bp2 (.cells none 2 [AF rp2_0 p2.length]), .AL rp2_0 3 (AL (eI .i64) p2)] F) (hc : BH (cfg.still 265) av = [Ai p0, .bool p1, .ptr (some (bp2, 0))] := by kernel_rfl) : ∃ v h', BN cfg g h 265 av v h' ∧ ∃ (r'1 : Option Nat), v = .tuple [] ∧ HH g h' [.obj bp2 (.cells none 2 [AF r'1 u1.length]), .AL r'1 3 (AL (eI .i64) u1)] F := by
 refine Dr 10 [] hc ?_
 clear hc
 unfold ER at hm
 refine bg 10 [(0, Ai p0), (1, .bool p1), (2, .ptr (some (bp2, 0)))] fun fr H => ?_
 refine AH 1 (AP 1 [(5, .bool p1)] H fun fr H => Ak 5 H hm (fun hb hm H => ?_) fun hb hm H => ?_)
 ·refine ED 5 (Ek 6 0 0 A H fun fr t H => ?_)
  refine AG 1 [(7, Ai p0)] H fun fr H => ?_
  obtain ⟨h1, e1, A⟩ := A.pL 3 [Ai p0]
  refine A7 8 (AF (some h.size) (([p0] : List Int).length)) e1 H fun fr t H => ?_
  obtain ⟨hb, hm⟩ := BQ hm
  obtain ⟨r1, h2, hx, A1⟩ := HH.Lo (encI .i64) (by decide) A 2 (xs := p2) (ys := ([p0] : List Int)) rfl (DM A 0 rfl (n := ([p0] : List Int).length) (z := 1) rfl (by decide)) rfl rfl hb
  replace A : HH g h2 [.AL (some h.size) 3 ([Ai p0]), _, .AL r1 3 (AL (eI .i64) (p2 ++ ([p0] : List Int)))] F := A1
  replace A := A.k2 1 2
  refine As 9 _ _ H (fun fr => .of (IE (s := DP rp2_0 p2.length) (by kernel_rfl) hx)) fun fr t H => ?_
  obtain ⟨h3, hx, A1⟩ := A.st 0 rfl (o := 0) (new := [AF r1 ((p2 ++ ([p0] : List Int)).length)]) (ds := [AF r1 ((p2 ++ ([p0] : List Int)).length)]) (Nat.le_of_ble_eq_true rfl) rfl rfl
  replace A : HH g h3 [.obj bp2 (.cells none 2 [AF r1 ((p2 ++ ([p0] : List Int)).length)]), _] F := A1
  refine Ep hx H fun fr t H => ?_
  refine at_nil ?_
  obtain rfl := Ag hm
  refine ⟨.inr rfl, .tuple [], rH H, ?_⟩
  exact ⟨r1, rfl, A⟩
 refine HG ?_
 obtain rfl := Ag hm
 refine ⟨.inr rfl, .tuple [], rH H, ?_⟩
 exact ⟨rp2_0, rfl, A⟩
def FM (p0 : Bf) (p1 : List UInt8) (s : (List Int) × Int × Int) : Option (((List Int) × Int × Int) ⊕ (((List Int)))) :=
 match s with
 | (x1, x2, x3) => (GP p0.A9 x2).bind fun x5 => (ER x3 x5 x1).bind fun x6 => Af (x3 == (p1.length : Int)) (some (.inr x6)) ((P1 p1 x3).bind fun x7 => (Sv 256 p0.BV x7).bind fun x8 => (GP p0.BT (IntKind.i64.wrap ((IntKind.i64.wrap ((IntKind.i64.wrap x2) * p0.An)) + (IntKind.i64.wrap x8)))).bind fun x9 => Af (x9 == (-1)) (some (.inr x6)) (some (.inl (x6, x9, IntKind.i64.wrap (x3 + 1)))))
def EG (p0 : Bf) (p1 : List UInt8) (p2_10 : List Int) : Option ((List Int)) :=
 (loop (FM p0 p1) (p2_10, (0 : Int), (0 : Int))).bind fun x4 => some x4
theorem IB {p0 p1 p2_10 bp2_10 rp2_10_0 u1} (hm : EG p0 p1 p2_10 = some u1) (A : HH g h [.obj bp2_10 (.cells none 2 [AF rp2_10_0 p2_10.length]), .AL rp2_10_0 3 (AL (eI .i64) p2_10)] F) (hc : BH (cfg.still 264) av = [.BC (CW 256 (AD.int .u8) p0.BV ++ [Ai p0.An, vs (eI .i32) p0.BT, vs eB p0.A9]), .str p1, .func (.func 265) [] [.ptr (some (bp2_10, 0))]] := by kernel_rfl) : ∃ v h', BN cfg g h 264 av v h' ∧ ∃ (r'1 : Option Nat), v = .tuple [] ∧ HH g h' [.obj bp2_10 (.cells none 2 [AF r'1 u1.length]), .AL r'1 3 (AL (eI .i64) u1)] F := by
 refine Dr 49 [] hc ?_
 clear hc
 unfold EG at hm
 refine bg 49 [(0, .BC (CW 256 (AD.int .u8) p0.BV ++ [Ai p0.An, vs (eI .i32) p0.BT, vs eB p0.A9])), (1, .str p1), (2, .func (.func 265) [] [.ptr (some (bp2_10, 0))])] fun fr H => ?_
 refine AH 1 (Bn 1 [(6, .int .i32 0)] 1 H fun fr H => AP 1 [(7, Ai 0)] H fun fr H => Aa (id := 0) (by kernel_rfl) ?_)
 obtain ⟨o1, ho, hm⟩ := bind_some hm
 refine BG (Q' := fun e fr' h' => (∃ x4, e = .ret ∧ x4 = o1 ∧ ∃ r2, Has fr' 49 [] ∧ HH g h' [.obj bp2_10 (.cells none 2 [AF r2 x4.length]), .AL r2 3 (AL (eI .i64) x4)] F) ∨ False) ?_ ?_
 ·refine Bv (by kernel_rfl) (fun (s : (List Int) × Int × Int) fr' h' => ∃ x1 x2 x3, (x1, x2, x3) = s ∧ ∃ r1, Has fr' 49 [(0, .BC (CW 256 (AD.int .u8) p0.BV ++ [Ai p0.An, vs (eI .i32) p0.BT, vs eB p0.A9])), (1, .str p1), (2, .func (.func 265) [] [.ptr (some (bp2_10, 0))]), (6, .int .i32 x2), (7, Ai x3)] ∧ HH g h' [.obj bp2_10 (.cells none 2 [AF r1 x1.length]), .AL r1 3 (AL (eI .i64) x1)] F) ho ⟨_, _, _, rfl, rp2_10_0, H.ls, A⟩ ?_
  clear ho hm H A
  intro s q fr h1 hI hm
  obtain ⟨x1, x2, x3, rfl, r1, H, A⟩ := hI
  unfold FM at hm
  refine AV (Aa (id := 1) (by kernel_rfl) ?_)
  refine AH 10 (Ax 5 [(10, .func (.func 265) [] [.ptr (some (bp2_10, 0))]), (11, Ai x3)] 15 (vs eB p0.A9) h1 H (fun fr => .of (IQ (by kernel_rfl))) fun fr t H => ?_)
  obtain ⟨x5, hx, hm⟩ := bind_some hm
  refine Ax 1 [] 17 (.BC [.bool x5]) h1 H (fun fr => .of (Ht (e := eB) (x := x5) WZ (by decide) (by kernel_rfl) hx)) fun fr t H => ?_
  refine As 18 (.bool x5) h1 H (fun fr => .of (IQ (by kernel_rfl))) fun fr t H => ?_
  obtain ⟨x6, hx, hm⟩ := bind_some hm
  obtain ⟨v1, h2, hr, r3, rfl, A1⟩ := H3 (av := [Ai x3, .bool x5, .ptr (some (bp2_10, 0))]) hx (A.cut 2)
  replace A := A.g22 A1
  refine Ut hr H fun fr t H => ?_
  refine BF id (AV (AH 4 (AP 4 [(23, .bool (x3 == (p1.length : Int)))] H fun fr H => Ak 23 H hm (fun hb hm H => ?_) fun hb hm H => ?_)))
  ·refine AY ?_
   exact nr hm fun e => .inl ⟨_, rfl, e, _, H.ls, A⟩
  refine Br id (AV (FF 5 24 ?_))
  refine Ax 3 [] 27 (vs (eI .i32) p0.BT) h2 H (fun fr => .of (IQ (by kernel_rfl))) fun fr t H => ?_
  refine Ax 5 [(29, Ai (IntKind.i64.wrap x2))] 33 (Ai p0.An) h2 H (fun fr => .of (IQ (by kernel_rfl))) fun fr t H => ?_
  obtain ⟨x7, hx, hm⟩ := bind_some hm
  refine Ax 4 [(34, Ai (IntKind.i64.wrap ((IntKind.i64.wrap x2) * p0.An))), (35, .BC (CW 256 (AD.int .u8) p0.BV ++ [Ai p0.An, vs (eI .i32) p0.BT, vs eB p0.A9]))] 38 (Ab x7) h2 H (fun fr => .of (Iy (by kernel_rfl) hx)) fun fr t H => ?_
  obtain ⟨x8, hq1, hm⟩ := bind_some hm
  obtain ⟨tl1, hd1⟩ := U3 (AD.int .u8) [Ai p0.An, vs (eI .i32) p0.BT, vs eB p0.A9] hq1
  refine Ax 2 [] 41 (.BC ([Ab x8] ++ tl1)) h2 H (fun fr => .of (W6 (X := p0.BV) (by kernel_rfl) hq1 hd1)) fun fr t H => ?_
  refine As 42 (Ab x8) h2 H (fun fr => .of (IQ (by kernel_rfl))) fun fr t H => ?_
  obtain ⟨x9, hx, hm⟩ := bind_some hm
  refine Ax 2 [] 45 (.BC [.int .i32 x9]) h2 H (fun fr => .of (Ht (e := (eI .i32)) (x := x9) (encI .i32) (by decide) (by kernel_rfl) hx)) fun fr t H => ?_
  refine As 46 (.int .i32 x9) h2 H (fun fr => .of (IQ (by kernel_rfl))) fun fr t H => ?_
  refine Bk 1 [(0, .BC (CW 256 (AD.int .u8) p0.BV ++ [Ai p0.An, vs (eI .i32) p0.BT, vs eB p0.A9])), (1, .str p1), (2, .func (.func 265) [] [.ptr (some (bp2_10, 0))]), (6, .int .i32 x9), (7, Ai x3)] H fun fr H => Cb 2 id (AP 2 [(48, .bool (x9 == (-1)))] H fun fr H => Ak 48 H hm (fun hb hm H => ?_) fun hb hm H => ?_)
  ·refine AY ?_
   exact nr hm fun e => .inl ⟨_, rfl, e, _, H.ls, A⟩
  refine Fg 3 id (Bk 3 [(0, .BC (CW 256 (AD.int .u8) p0.BV ++ [Ai p0.An, vs (eI .i32) p0.BT, vs eB p0.A9])), (1, .str p1), (2, .func (.func 265) [] [.ptr (some (bp2_10, 0))]), (6, .int .i32 x9), (7, Ai (IntKind.i64.wrap (x3 + 1)))] H fun fr H => at_nil ?_)
  exact nx hm ⟨_, _, _, rfl, _, H.ls, A⟩
 clear ho
 clear A
 intro e fr h3 hQ
 rcases hQ with ⟨x4, rfl, rfl, r2, H, A⟩ | hF
 ·obtain rfl := Ag hm
  exact ⟨.inl rfl, _, rH H, _, rfl, A⟩
 exact hF.elim
def GO (p0 : Bf) (p1 : List UInt8) : Option ((List Int)) :=
 (EG p0 p1 ([] : List Int)).bind fun x1 => some x1
theorem Kw {p0 p1 q0} (hm : GO p0 p1 = some q0) (A : HH g h [] F) (hc : BH (cfg.still 201) av = [.BC (CW 256 (AD.int .u8) p0.BV ++ [Ai p0.An, vs (eI .i32) p0.BT, vs eB p0.A9]), .str p1] := by kernel_rfl) : ∃ v h', BN cfg g h 201 av v h' ∧ ∃ (rq0 : Option Nat), v = AF rq0 q0.length ∧ HH g h' [.AL rq0 3 (AL (eI .i64) q0)] F := by
 refine Dr 11 [.tmp 4] hc ?_
 clear hc
 unfold GO at hm
 refine bg 11 [(0, .BC (CW 256 (AD.int .u8) p0.BV ++ [Ai p0.An, vs (eI .i32) p0.BT, vs eB p0.A9])), (1, .str p1)] fun fr H => ?_
 refine AH 1 (Bn 1 [] 1 H fun fr H => ?_)
 obtain ⟨h1, e1, A⟩ := A.pu (.cells none 2 [.slice none 0])
 refine A7 5 (.ptr (some (h.size, 0))) e1 H fun fr t H => ?_
 refine Cb 4 id ?_
 replace A : HH g h1 [.AL none 3 (AL (eI .i64) ([] : List Int)), .obj h.size (.cells none 2 [AF none (([] : List Int).length)])] F := A.I5 3
 replace A := A.k2 1 0
 obtain ⟨x1, hx, hm⟩ := bind_some hm
 obtain ⟨v1, h2, hr, r1, rfl, A1⟩ := IB (av := [.BC (CW 256 (AD.int .u8) p0.BV ++ [Ai p0.An, vs (eI .i32) p0.BT, vs eB p0.A9]), .str p1, .func (.func 265) [] [.ptr (some (h.size, 0))]]) hx (A.cut 2)
 replace A := A.g22 A1
 refine Q7 3 [] hr H fun fr t H => ?_
 refine Cb 2 id (Ek 10 0 0 A H fun fr t H => ?_)
 refine AP 1 [(4, AF r1 x1.length)] H fun fr H => AY ?_
 obtain rfl := Ag hm
 refine ⟨.inl rfl, AF r1 x1.length, rH H, ?_⟩
 replace A := A.k1 1
 exact ⟨r1, rfl, A⟩
def GA (x1 : List UInt8) (v1 : Int) (x5 : List Int) (s : Int) : Option ((Int) ⊕ ((Unit) ⊕ (Bool))) :=
 match s with
 | x6 => Af (decide (x6 < (x5.length : Int))) ((GP x5 x6).bind fun x8 => (Af ((IntKind.i64.wrap (v1 + x8)) == (x1.length : Int)) (some true) ((P1 x1 (IntKind.i64.wrap (v1 + x8))).bind fun x10 => some (x10 == 47)) : Option (Bool)).bind fun x9 => Af x9 (some (.inr (.inr true))) (some (.inl (IntKind.i64.wrap (x6 + 1))))) (some (.inr (.inl ())))
def EX (p0 : Al) (x1 : List UInt8) (s : Unit) (v1 : Int) : Option ((Unit) ⊕ ((Bool))) :=
 match s with
 | _ => (Ln x1 (some v1) none).bind fun x4 => (GO p0.t_ x4).bind fun x5 => (loop (GA x1 v1 x5) (0 : Int)).bind fun o1 => (match o1 with | .inl _ => some (.inl ()) | .inr x7 => some (.inr x7))
def Fb (p0 : Al) (p1 : List UInt8) : Option (Bool) :=
 (Ik p1).bind fun x1 => (FA p0 x1).bind fun (x2_10, x2_11) => (Dd (EX p0 x1) (.inl ()) x2_10 x2_11).bind fun y1 => (match y1 with | .inl _ => some false | .inr x3 => some x3)
theorem Jf {p0 p1 q0} (hm : Fb p0 p1 = some q0) (A : HH g h [] F) (hc : BH (cfg.still 138) av = [.BC (AB p0), .str p1] := by kernel_rfl) : ∃ v h', BN cfg g h 138 av v h' ∧ v = .bool q0 ∧ HH g h' [] F := by
 refine Dr 42 [.cell 4 4] hc ?_
 clear hc
 unfold Fb at hm
 refine bg 42 [(0, .BC (AB p0)), (1, .str p1)] fun fr H => ?_
 refine AH 3 ?_
 obtain ⟨h1, e1, A⟩ := A.pu (.cells none 2 [.BC (AB p0)])
 refine A7 2 (.ptr (some (h.size, 0))) e1 H fun fr t H => ?_
 obtain ⟨h2, e2, A⟩ := A.pu (.cells none 2 [.str p1])
 refine A7 3 (.ptr (some (h1.size, 0))) e2 H fun fr t H => ?_
 obtain ⟨h3, e3, A⟩ := A.pu (.cells none 2 [.bool false])
 refine A7 4 (.ptr (some (h2.size, 0))) e3 H fun fr t H => ?_
 refine Cb 3 id (Ek 9 1 0 A H fun fr t H => ?_)
 obtain ⟨x1, hx, hm⟩ := bind_some hm
 obtain ⟨v1, h4, hr, rfl, A1⟩ := Nx (av := [.str p1]) hx (A.cut 0)
 replace A : HH g h4 [.obj h2.size (.cells none 2 [.bool false]), .obj h1.size (.cells none 2 [.str p1]), .obj h.size (.cells none 2 [.BC (AB p0)])] F := A.CY (n := 0) A1
 refine A8 10 hr H fun fr t H => ?_
 obtain ⟨h5, hx, A⟩ := A.s1 0 [.str x1] [_]
 refine Ep hx H fun fr t H => ?_
 refine BF id (AV (AH 3 (Ek 11 2 0 A H fun fr t H => ?_)))
 refine Ek 12 1 0 A H fun fr t H => ?_
 obtain ⟨⟨x2_10, x2_11⟩, hx, hm⟩ := bind_some hm
 obtain ⟨v1, h6, hr, bqw2_10, bqw2_11, rfl, A1⟩ := I3 (av := [.BC (AB p0), .str x1]) hx (A.cut 0)
 replace A := A.XX A1
 refine A8 13 hr H fun fr t H => ?_
 refine BF id (Aa (id := 0) (by kernel_rfl) ?_)
 obtain ⟨y1, ho, hm⟩ := bind_some hm
 refine M5 (C := cfg) (x := .tmp 13) (ps := [14]) (f' := 263) (first := []) (cap := [.ptr (some (bqw2_10, 0)), .ptr (some (bqw2_11, 0))]) (Lu := [.obj bqw2_10 (.cells none 2 [.BC (AB x2_10)]), .obj bqw2_11 (.cells none 2 [.str x2_11])]) (Lc := [.obj h2.size (.cells none 2 [.bool false]), .obj h1.size (.cells none 2 [.str x1]), .obj h.size (.cells none 2 [.BC (AB p0)])]) (F := F) (ex := fun x => [Ai x]) (Y := EX p0 x1) (PL := fun s Lc => () = s ∧ Lc = [.obj h2.size (.cells none 2 [.bool false]), .obj h1.size (.cells none 2 [.str x1]), .obj h.size (.cells none 2 [.BC (AB p0)])]) (PR := fun r Lc => (∃ (x3 : Bool), x3 = r ∧ Lc = [.obj h2.size (.cells none 2 [.bool x3]), .obj h1.size (.cells none 2 [.str x1]), .obj h.size (.cells none 2 [.BC (AB p0)])]) ∨ False) (pe := fun _ => .ret) (s := ()) (y := y1) (PU := fun L => L = [.obj bqw2_10 (.cells none 2 [.BC (AB x2_10)]), .obj bqw2_11 (.cells none 2 [.str x2_11])]) (by kernel_rfl) H (fun fr => by kernel_rfl) (by kernel_rfl) (fun _ => rfl) (by kernel_rfl) A ⟨rfl, rfl⟩ ?_ ?_ ?_ ?_ ?_
 ·refine KY H (kn := fun v1 => [(2, .ptr (some (h.size, 0))), (3, .ptr (some (h1.size, 0))), (4, .ptr (some (h2.size, 0))), (14, Ai v1)]) (fun v1 fr => by kernel_rfl) ?_
  clear ho hm A H
  intro g h7 F s v1 o Lc fr H hP hm A
  obtain ⟨rfl, rfl⟩ := hP
  unfold EX at hm
  show AW _ _ _ _ _ _ _
  refine ED 1 (Bk 1 [(2, .ptr (some (h.size, 0))), (3, .ptr (some (h1.size, 0))), (4, .ptr (some (h2.size, 0))), (5, Ai v1)] H fun fr H => at_nil ?_)
  refine ⟨rfl, _, A, ?_⟩
  clear A
  intro h8 F A
  show AW _ _ _ _ _ _ _
  refine Aa (id := 1) (by kernel_rfl) ?_
  refine AV (FF 4 10 ?_)
  refine Ek 15 2 0 A H fun fr t H => ?_
  refine Ax 2 [] 18 (.BC (CW 256 (AD.int .u8) p0.t_.BV ++ [Ai p0.t_.An, vs (eI .i32) p0.t_.BT, vs eB p0.t_.A9])) h8 H (fun fr => .of (IQ (by kernel_rfl))) fun fr t H => ?_
  refine Ek 19 1 0 A H fun fr t H => ?_
  obtain ⟨x4, hx, hm⟩ := bind_some hm
  refine Ax 1 [] 21 (.str x4) h8 H (fun fr => .of (JV (k := .i64) (k' := .i64) (lo := (some v1)) (hi := none) (by kernel_rfl) hx)) fun fr t H => ?_
  obtain ⟨x5, hx, hm⟩ := bind_some hm
  obtain ⟨v1, h9, hr, rqw3, rfl, A1⟩ := Kw (av := [.BC (CW 256 (AD.int .u8) p0.t_.BV ++ [Ai p0.t_.An, vs (eI .i32) p0.t_.BT, vs eB p0.t_.A9]), .str x4]) hx (A.cut 0)
  replace A : HH g h9 [.AL rqw3 3 (AL (eI .i64) x5), .obj h2.size (.cells none 2 [.bool false]), .obj h1.size (.cells none 2 [.str x1]), .obj h.size (.cells none 2 [.BC (AB p0)])] F := A.CY (n := 0) A1
  refine A8 22 hr H fun fr t H => ?_
  refine AP 2 [(23, Ai (x5.length : Int)), (24, Ai 0)] H fun fr H => Aa (id := 2) (by kernel_rfl) ?_
  obtain ⟨o1, ho, hm⟩ := bind_some hm
  refine BG (Q' := fun e fr' h' => (e = .exit 2 ∧ .inl () = o1 ∧ Has fr' 42 [] ∧ HH g h' [.obj h2.size (.cells none 2 [.bool false]), .obj h1.size (.cells none 2 [.str x1]), .obj h.size (.cells none 2 [.BC (AB p0)])] F) ∨ (∃ x7, e = .ret ∧ .inr x7 = o1 ∧ Has fr' 42 [(4, .ptr (some (h2.size, 0)))] ∧ HH g h' [.obj h2.size (.cells none 2 [.bool x7]), .obj h1.size (.cells none 2 [.str x1]), .obj h.size (.cells none 2 [.BC (AB p0)])] F) ∨ False) ?_ ?_
  ·refine Bv (by kernel_rfl) (fun (s : Int) fr' h' => ∃ x6, x6 = s ∧ Has fr' 42 [(3, .ptr (some (h1.size, 0))), (4, .ptr (some (h2.size, 0))), (5, Ai v1), (22, AF rqw3 x5.length), (23, Ai (x5.length : Int)), (24, Ai x6)] ∧ HH g h' [.AL rqw3 3 (AL (eI .i64) x5), .obj h2.size (.cells none 2 [.bool false]), .obj h1.size (.cells none 2 [.str x1]), .obj h.size (.cells none 2 [.BC (AB p0)])] F) ho ⟨_, rfl, H.ls, A⟩ ?_
   clear ho hm H A
   intro s q fr h10 hI hm
   obtain ⟨x6, rfl, H, A⟩ := hI
   unfold GA at hm
   refine AH 1 (AP 1 [(25, .bool (decide (x6 < (x5.length : Int))))] H fun fr H => AV (Ak 25 H hm (fun hb hm H => ?_) fun hb hm H => ?_))
   ·refine Br id (AV (Aa (id := 3) (by kernel_rfl) ?_))
    refine AH 3 ?_
    obtain ⟨x8, hx, hm⟩ := bind_some hm
    obtain ⟨i1, er1, _, hx, hq1⟩ := HH.Ll (encI .i64) (by decide) A 0 (xs := x5) rfl hx
    refine As 26 (.ptr (some (i1, x6.toNat * 1))) h10 H (fun fr => .of (D7 (s := DP rqw3 x5.length) (by kernel_rfl) hx)) fun fr t H => ?_
    refine As 27 _ _ H (fun fr => .of (DU (by kernel_rfl) (EP (encI .i64) (HH.row A 0 rfl er1) hq1 (o := 0) rfl))) fun fr t H => ?_
    refine Bn 1 [(7, Ai x8)] 4 H fun fr H => Bn 4 [(8, Ai (IntKind.i64.wrap (v1 + x8)))] 10 H fun fr H => AZ 1 [(31, Ai (IntKind.i64.wrap (v1 + x8)))] 32 2 0 A H fun fr t H => ?_
    refine AG 3 [(35, .bool ((IntKind.i64.wrap (v1 + x8)) == (x1.length : Int)))] H fun fr H => ?_
    obtain ⟨x9, ho, hm⟩ := bind_some hm
    refine Aq 5 (fun fr' h' => Has fr' 42 [(3, .ptr (some (h1.size, 0))), (4, .ptr (some (h2.size, 0))), (5, Ai v1), (22, AF rqw3 x5.length), (23, Ai (x5.length : Int)), (24, Ai x6), (40, .bool x9)] ∧ HH g h' [.AL rqw3 3 (AL (eI .i64) x5), .obj h2.size (.cells none 2 [.bool false]), .obj h1.size (.cells none 2 [.str x1]), .obj h.size (.cells none 2 [.BC (AB p0)])] F) ?_ ?_
    ·rcases Ac ho with ⟨hb, hm⟩ | ⟨hb, hm⟩
     ·replace H := H.kn 35 hb
      refine AG 5 [(40, .bool true)] H fun fr H => ?_
      obtain rfl := Ag hm
      exact at_nil ⟨H.ls, A⟩
     replace H := H.kn 35 hb
     refine Ek 36 2 0 A H fun fr t H => ?_
     obtain ⟨x10, hx, hm⟩ := bind_some hm
     refine Ax 1 [] 38 (Ab x10) h10 H (fun fr => .of (Iy (by kernel_rfl) hx)) fun fr t H => ?_
     refine AG 2 [(40, .bool (x10 == 47))] H fun fr H => ?_
     obtain rfl := Ag hm
     exact at_nil ⟨H.ls, A⟩
    clear A
    intro t fr h11 hK
    obtain ⟨H, A⟩ := hK
    refine BF id (Ak 40 H hm (fun hb hm H => ?_) fun hb hm H => ?_)
    ·refine AH 1 ?_
     obtain ⟨h12, hx, A⟩ := A.s1 0 [.bool true] [_]
     refine Ep hx H fun fr t H => ?_
     refine BF id (AY ?_)
     replace A := A.k3 1 2 3
     exact nr hm fun e => Or.inr (.inl ⟨_, rfl, e, H.ls, A⟩)
    refine Fg 2 id (Bk 2 [(3, .ptr (some (h1.size, 0))), (4, .ptr (some (h2.size, 0))), (5, Ai v1), (22, AF rqw3 x5.length), (23, Ai (x5.length : Int)), (24, Ai (IntKind.i64.wrap (x6 + 1)))] H fun fr H => at_nil ?_)
    exact nx hm ⟨_, rfl, H.ls, A⟩
   refine Bh (i := 2) (by kernel_rfl) ?_
   replace A := A.k3 1 2 3
   exact nr hm fun e => .inl ⟨rfl, e, H.ls, A⟩
  clear ho
  clear A
  intro e fr h13 hQ
  rcases hQ with ⟨rfl, rfl, H, A⟩ | ⟨x7, rfl, rfl, H, A⟩ | hF
  ·have e1 := Option.some.inj hm
   subst e1
   exact ⟨rfl, _, ⟨rfl, rfl⟩, A⟩
  ·have e1 := Option.some.inj hm
   subst e1
   exact ⟨rfl, _, Or.inl ⟨x7, rfl, rfl⟩, A⟩
  exact hF.elim
 ·intro h1 l F1 R hYR B A
  obtain ⟨v1, h2, hr, _, F2, B, A⟩ := HE (av := [.KJ l, .ptr (some (bqw2_10, 0)), .ptr (some (bqw2_11, 0))]) ho (by kernel_rfl) hYR B A
  exact ⟨v1, h2, F2, _, hr, B, rfl, A⟩
 ·clear ho A
  intro s2 h14 Lc Lu ey hP hU A
  subst ey
  obtain ⟨rfl, rfl⟩ := hP
  subst hU
  replace A : HH g h14 [.obj bqw2_10 (.cells none 2 [.BC (AB x2_10)]), .obj bqw2_11 (.cells none 2 [.str x2_11]), .obj h2.size (.cells none 2 [.bool false]), .obj h1.size (.cells none 2 [.str x1]), .obj h.size (.cells none 2 [.BC (AB p0)])] F := A
  show AW _ _ _ _ _ _ _
  refine AH 1 ?_
  obtain ⟨h15, hx, A⟩ := A.s2 0 [.bool false] [_]
  refine OE (v := .tuple []) (h1 := h15) [(4, .ptr (some (h2.size, 0)))] H (fun fr => by kernel_rfl) (fun fr => .of (MT (by kernel_rfl) rfl hx)) ?_
  intro fr t H
  refine BF id (AY ?_)
  obtain rfl := Ag hm
  refine ⟨.inl rfl, .bool false, EY (.cell (rT H) (C3 (by kernel_rfl) (A.l1 2 0)) .nil), ?_⟩
  replace A := A.d0
  exact ⟨rfl, A⟩
 ·clear ho A
  intro r2 h14 Lc Lu e ey he hP hU A
  subst ey
  subst hU
  rcases hP with ⟨x3, rfl, rfl⟩ | hF
  ·obtain rfl := KA he
   replace A : HH g h14 [.obj bqw2_10 (.cells none 2 [.BC (AB x2_10)]), .obj bqw2_11 (.cells none 2 [.str x2_11]), .obj h2.size (.cells none 2 [.bool x3]), .obj h1.size (.cells none 2 [.str x1]), .obj h.size (.cells none 2 [.BC (AB p0)])] F := A
   obtain rfl := Ag hm
   refine ⟨.inl rfl, .bool x3, EY (.cell (rT H) (C3 (by kernel_rfl) (A.l1 2 0)) .nil), ?_⟩
   replace A := A.d0
   exact ⟨rfl, A⟩
  exact hF.elim
 exact fun _ => ⟨.ret, rfl⟩
def EL (p0 : List Al) (p1 : List UInt8) (s : Int) : Option ((Int) ⊕ ((Unit) ⊕ (Int × Bool))) :=
 match s with
 | x1 => Af (decide (x1 < (p0.length : Int))) ((GP p0 x1).bind fun x4 => (Fb x4 p1).bind fun x5 => Af x5 (some (.inr (.inr (x1, true)))) (some (.inl (IntKind.i64.wrap (x1 + 1))))) (some (.inr (.inl ())))
def EA (p0 : List Al) (p1 : List UInt8) : Option (Int × Bool) :=
 (loop (EL p0 p1) (0 : Int)).bind fun o1 => (match o1 with | .inl _ => some ((0 : Int), false) | .inr (x2, x3) => some (x2, x3))
theorem Hu {p0 p1 rp0 q0 q1} (hm : EA p0 p1 = some (q0, q1)) (A : HH g h [.AL rp0 136 (AL (eP AB) p0)] F) (hc : BH (cfg.still 76) av = [AF rp0 p0.length, .str p1] := by kernel_rfl) : ∃ v h', BN cfg g h 76 av v h' ∧ v = .tuple [Ai q0, .bool q1] ∧ HH g h' [.AL rp0 136 (AL (eP AB) p0)] F := by
 refine Dr 20 [.tmp 4, .tmp 5] hc ?_
 clear hc
 unfold EA at hm
 refine bg 20 [(0, AF rp0 p0.length), (1, .str p1)] fun fr H => ?_
 refine AH 2 (AP 2 [] H fun fr H => AV (AH 3 (AP 3 [(8, AF rp0 p0.length), (9, Ai (p0.length : Int)), (10, Ai 0)] H fun fr H => Aa (id := 0) (by kernel_rfl) ?_)))
 obtain ⟨o1, ho, hm⟩ := bind_some hm
 refine BG (Q' := fun e fr' h' => (e = .exit 0 ∧ .inl () = o1 ∧ Has fr' 20 [] ∧ HH g h' [.AL rp0 136 (AL (eP AB) p0)] F) ∨ (∃ x2 x3, e = .ret ∧ .inr (x2, x3) = o1 ∧ Has fr' 20 [(4, Ai x2), (5, .bool x3)] ∧ HH g h' [.AL rp0 136 (AL (eP AB) p0)] F) ∨ False) ?_ ?_
 ·refine Bv (by kernel_rfl) (fun (s : Int) fr' h' => ∃ x1, x1 = s ∧ Has fr' 20 [(1, .str p1), (8, AF rp0 p0.length), (9, Ai (p0.length : Int)), (10, Ai x1)] ∧ HH g h' [.AL rp0 136 (AL (eP AB) p0)] F) ho ⟨_, rfl, H.ls, A⟩ ?_
  clear ho hm H A
  intro s q fr h1 hI hm
  obtain ⟨x1, rfl, H, A⟩ := hI
  unfold EL at hm
  refine AH 1 (AP 1 [(11, .bool (decide (x1 < (p0.length : Int))))] H fun fr H => AV (Ak 11 H hm (fun hb hm H => ?_) fun hb hm H => ?_))
  ·refine Br id (AV (Aa (id := 1) (by kernel_rfl) ?_))
   refine AH 5 ?_
   obtain ⟨x4, hx, hm⟩ := bind_some hm
   obtain ⟨i1, er1, _, hx, hq1⟩ := HH.Ll (Qb _) (by decide) A 0 (xs := p0) rfl hx
   refine Ax 1 [(12, Ai x1)] 13 (.ptr (some (i1, x1.toNat * 1))) h1 H (fun fr => .of (D7 (s := DP rp0 p0.length) (by kernel_rfl) hx)) fun fr t H => ?_
   refine As 14 _ _ H (fun fr => .of (DU (by kernel_rfl) (EP (Qb _) (HH.row A 0 rfl er1) hq1 (o := 0) rfl))) fun fr t H => ?_
   refine Bn 2 [(6, Ai x1), (7, .BC (AB x4))] 3 H fun fr H => ?_
   obtain ⟨x5, hx, hm⟩ := bind_some hm
   obtain ⟨v1, h2, hr, rfl, A1⟩ := Jf (av := [.BC (AB x4), .str p1]) hx (A.cut 0)
   replace A := A.E8 A1
   refine BD 2 [] 17 hr H fun fr t H => ?_
   refine BF id (Ak 17 H hm (fun hb hm H => ?_) fun hb hm H => ?_)
   ·refine AH 3 (AP 3 [(4, Ai x1), (5, .bool true)] H fun fr H => AY ?_)
    exact nr hm fun e => Or.inr (.inl ⟨_, _, rfl, e, H.ls, A⟩)
   refine Fg 2 id (Bk 2 [(1, .str p1), (8, AF rp0 p0.length), (9, Ai (p0.length : Int)), (10, Ai (IntKind.i64.wrap (x1 + 1)))] H fun fr H => at_nil ?_)
   exact nx hm ⟨_, rfl, H.ls, A⟩
  refine Bh (i := 0) (by kernel_rfl) ?_
  exact nr hm fun e => .inl ⟨rfl, e, H.ls, A⟩
 clear ho
 clear A
 intro e fr h3 hQ
 rcases hQ with ⟨rfl, rfl, H, A⟩ | ⟨x2, x3, rfl, rfl, H, A⟩ | hF
 ·show AW _ _ _ _ _ _ _
  refine AH 2 (AP 2 [(4, Ai 0), (5, .bool false)] H fun fr H => AY ?_)
  obtain ⟨rfl, rfl⟩ := C9 hm
  exact ⟨.inl rfl, _, rH H, rfl, A⟩
 ·obtain ⟨rfl, rfl⟩ := C9 hm
  exact ⟨.inl rfl, _, rH H, rfl, A⟩
 exact hF.elim
def JM : Option ((List (List UInt8))) :=
 some ([([46, 97, 114, 99, 104, 45, 105, 100, 115] : List UInt8), ([46, 98, 122, 114] : List UInt8), ([46, 98, 122, 114, 105, 103, 110, 111, 114, 101] : List UInt8), ([46, 98, 122, 114, 116, 97, 103, 115] : List UInt8), ([46, 99, 118, 115, 105, 103, 110, 111, 114, 101] : List UInt8), ([46, 103, 105, 116] : List UInt8), ([46, 103, 105, 116, 97, 116, 116, 114, 105, 98, 117, 116, 101, 115] : List UInt8), ([46, 103, 105, 116, 105, 103, 110, 111, 114, 101] : List UInt8), ([46, 103, 105, 116, 109, 111, 100, 117, 108, 101, 115] : List UInt8), ([46, 104, 103] : List UInt8), ([46, 104, 103, 105, 103, 110, 111, 114, 101] : List UInt8), ([46, 104, 103, 116, 97, 103, 115] : List UInt8), ([46, 115, 118, 110] : List UInt8), ([61, 82, 69, 76, 69, 65, 83, 69, 45, 73, 68] : List UInt8), ([61, 109, 101, 116, 97, 45, 117, 112, 100, 97, 116, 101] : List UInt8), ([61, 117, 112, 100, 97, 116, 101] : List UInt8), ([67, 86, 83] : List UInt8), ([82, 67, 83] : List UInt8), ([83, 67, 67, 83] : List UInt8), ([95, 100, 97, 114, 99, 115] : List UInt8), ([123, 97, 114, 99, 104, 125] : List UInt8)] : List (List UInt8))
theorem Qc {q0} (hm : JM = some q0) (A : HH g h [] F) (hc : BH (cfg.still 203) av = [] := by kernel_rfl) : ∃ v h', BN cfg g h 203 av v h' ∧ ∃ (rq0 : Option Nat), v = AF rq0 q0.length ∧ HH g h' [.AL rq0 9 (AL eS q0)] F := by
 refine Dr 2 [.tmp 0] hc ?_
 clear hc
 unfold JM at hm
 refine bg 2 [] fun fr H => ?_
 refine AH 1 (Bn 1 [] 2 H fun fr H => ?_)
 obtain ⟨h1, e1, A⟩ := A.pL 9 [.str ([46, 97, 114, 99, 104, 45, 105, 100, 115] : List UInt8), .str ([46, 98, 122, 114] : List UInt8), .str ([46, 98, 122, 114, 105, 103, 110, 111, 114, 101] : List UInt8), .str ([46, 98, 122, 114, 116, 97, 103, 115] : List UInt8), .str ([46, 99, 118, 115, 105, 103, 110, 111, 114, 101] : List UInt8), .str ([46, 103, 105, 116] : List UInt8), .str ([46, 103, 105, 116, 97, 116, 116, 114, 105, 98, 117, 116, 101, 115] : List UInt8), .str ([46, 103, 105, 116, 105, 103, 110, 111, 114, 101] : List UInt8), .str ([46, 103, 105, 116, 109, 111, 100, 117, 108, 101, 115] : List UInt8), .str ([46, 104, 103] : List UInt8), .str ([46, 104, 103, 105, 103, 110, 111, 114, 101] : List UInt8), .str ([46, 104, 103, 116, 97, 103, 115] : List UInt8), .str ([46, 115, 118, 110] : List UInt8), .str ([61, 82, 69, 76, 69, 65, 83, 69, 45, 73, 68] : List UInt8), .str ([61, 109, 101, 116, 97, 45, 117, 112, 100, 97, 116, 101] : List UInt8), .str ([61, 117, 112, 100, 97, 116, 101] : List UInt8), .str ([67, 86, 83] : List UInt8), .str ([82, 67, 83] : List UInt8), .str ([83, 67, 67, 83] : List UInt8), .str ([95, 100, 97, 114, 99, 115] : List UInt8), .str ([123, 97, 114, 99, 104, 125] : List UInt8)]
 refine A7 1 (AF (some h.size) (([([46, 97, 114, 99, 104, 45, 105, 100, 115] : List UInt8), ([46, 98, 122, 114] : List UInt8), ([46, 98, 122, 114, 105, 103, 110, 111, 114, 101] : List UInt8), ([46, 98, 122, 114, 116, 97, 103, 115] : List UInt8), ([46, 99, 118, 115, 105, 103, 110, 111, 114, 101] : List UInt8), ([46, 103, 105, 116] : List UInt8), ([46, 103, 105, 116, 97, 116, 116, 114, 105, 98, 117, 116, 101, 115] : List UInt8), ([46, 103, 105, 116, 105, 103, 110, 111, 114, 101] : List UInt8), ([46, 103, 105, 116, 109, 111, 100, 117, 108, 101, 115] : List UInt8), ([46, 104, 103] : List UInt8), ([46, 104, 103, 105, 103, 110, 111, 114, 101] : List UInt8), ([46, 104, 103, 116, 97, 103, 115] : List UInt8), ([46, 115, 118, 110] : List UInt8), ([61, 82, 69, 76, 69, 65, 83, 69, 45, 73, 68] : List UInt8), ([61, 109, 101, 116, 97, 45, 117, 112, 100, 97, 116, 101] : List UInt8), ([61, 117, 112, 100, 97, 116, 101] : List UInt8), ([67, 86, 83] : List UInt8), ([82, 67, 83] : List UInt8), ([83, 67, 67, 83] : List UInt8), ([95, 100, 97, 114, 99, 115] : List UInt8), ([123, 97, 114, 99, 104, 125] : List UInt8)] : List (List UInt8)).length)) e1 H fun fr t H => ?_
 refine AP 1 [(0, AF (some h.size) (([([46, 97, 114, 99, 104, 45, 105, 100, 115] : List UInt8), ([46, 98, 122, 114] : List UInt8), ([46, 98, 122, 114, 105, 103, 110, 111, 114, 101] : List UInt8), ([46, 98, 122, 114, 116, 97, 103, 115] : List UInt8), ([46, 99, 118, 115, 105, 103, 110, 111, 114, 101] : List UInt8), ([46, 103, 105, 116] : List UInt8), ([46, 103, 105, 116, 97, 116, 116, 114, 105, 98, 117, 116, 101, 115] : List UInt8), ([46, 103, 105, 116, 105, 103, 110, 111, 114, 101] : List UInt8), ([46, 103, 105, 116, 109, 111, 100, 117, 108, 101, 115] : List UInt8), ([46, 104, 103] : List UInt8), ([46, 104, 103, 105, 103, 110, 111, 114, 101] : List UInt8), ([46, 104, 103, 116, 97, 103, 115] : List UInt8), ([46, 115, 118, 110] : List UInt8), ([61, 82, 69, 76, 69, 65, 83, 69, 45, 73, 68] : List UInt8), ([61, 109, 101, 116, 97, 45, 117, 112, 100, 97, 116, 101] : List UInt8), ([61, 117, 112, 100, 97, 116, 101] : List UInt8), ([67, 86, 83] : List UInt8), ([82, 67, 83] : List UInt8), ([83, 67, 67, 83] : List UInt8), ([95, 100, 97, 114, 99, 115] : List UInt8), ([123, 97, 114, 99, 104, 125] : List UInt8)] : List (List UInt8)).length))] H fun fr H => AY ?_
 obtain rfl := Ag hm
 refine ⟨.inl rfl, AF (some h.size) (([([46, 97, 114, 99, 104, 45, 105, 100, 115] : List UInt8), ([46, 98, 122, 114] : List UInt8), ([46, 98, 122, 114, 105, 103, 110, 111, 114, 101] : List UInt8), ([46, 98, 122, 114, 116, 97, 103, 115] : List UInt8), ([46, 99, 118, 115, 105, 103, 110, 111, 114, 101] : List UInt8), ([46, 103, 105, 116] : List UInt8), ([46, 103, 105, 116, 97, 116, 116, 114, 105, 98, 117, 116, 101, 115] : List UInt8), ([46, 103, 105, 116, 105, 103, 110, 111, 114, 101] : List UInt8), ([46, 103, 105, 116, 109, 111, 100, 117, 108, 101, 115] : List UInt8), ([46, 104, 103] : List UInt8), ([46, 104, 103, 105, 103, 110, 111, 114, 101] : List UInt8), ([46, 104, 103, 116, 97, 103, 115] : List UInt8), ([46, 115, 118, 110] : List UInt8), ([61, 82, 69, 76, 69, 65, 83, 69, 45, 73, 68] : List UInt8), ([61, 109, 101, 116, 97, 45, 117, 112, 100, 97, 116, 101] : List UInt8), ([61, 117, 112, 100, 97, 116, 101] : List UInt8), ([67, 86, 83] : List UInt8), ([82, 67, 83] : List UInt8), ([83, 67, 67, 83] : List UInt8), ([95, 100, 97, 114, 99, 115] : List UInt8), ([123, 97, 114, 99, 104, 125] : List UInt8)] : List (List UInt8)).length), rH H, ?_⟩
 replace A : HH g h1 [.AL (some h.size) 9 (AL eS ([([46, 97, 114, 99, 104, 45, 105, 100, 115] : List UInt8), ([46, 98, 122, 114] : List UInt8), ([46, 98, 122, 114, 105, 103, 110, 111, 114, 101] : List UInt8), ([46, 98, 122, 114, 116, 97, 103, 115] : List UInt8), ([46, 99, 118, 115, 105, 103, 110, 111, 114, 101] : List UInt8), ([46, 103, 105, 116] : List UInt8), ([46, 103, 105, 116, 97, 116, 116, 114, 105, 98, 117, 116, 101, 115] : List UInt8), ([46, 103, 105, 116, 105, 103, 110, 111, 114, 101] : List UInt8), ([46, 103, 105, 116, 109, 111, 100, 117, 108, 101, 115] : List UInt8), ([46, 104, 103] : List UInt8), ([46, 104, 103, 105, 103, 110, 111, 114, 101] : List UInt8), ([46, 104, 103, 116, 97, 103, 115] : List UInt8), ([46, 115, 118, 110] : List UInt8), ([61, 82, 69, 76, 69, 65, 83, 69, 45, 73, 68] : List UInt8), ([61, 109, 101, 116, 97, 45, 117, 112, 100, 97, 116, 101] : List UInt8), ([61, 117, 112, 100, 97, 116, 101] : List UInt8), ([67, 86, 83] : List UInt8), ([82, 67, 83] : List UInt8), ([83, 67, 67, 83] : List UInt8), ([95, 100, 97, 114, 99, 115] : List UInt8), ([123, 97, 114, 99, 104, 125] : List UInt8)] : List (List UInt8)))] F := A
 exact ⟨some h.size, rfl, A⟩
def E5 (p0 : List UInt8) (p1 : List UInt8) : Option (Bool) :=
 (Ec p0).bind fun x1 => (Af x1 ((Ec p1).bind fun x3 => some (!x3)) (some false) : Option (Bool)).bind fun x2 => some (x2 || (Op.bytesLess p0 p1))
theorem MM {p0 p1 q0} (hm : E5 p0 p1 = some q0) (A : HH g h [] F) (hc : BH (cfg.still 222) av = [.str p0, .str p1] := by kernel_rfl) : ∃ v h', BN cfg g h 222 av v h' ∧ v = .bool q0 ∧ HH g h' [] F := by
 refine Dr 17 [.tmp 4] hc ?_
 clear hc
 unfold E5 at hm
 refine bg 17 [(0, .str p0), (1, .str p1)] fun fr H => ?_
 refine AH 1 (Bn 1 [] 13 H fun fr H => ?_)
 obtain ⟨x1, hx, hm⟩ := bind_some hm
 obtain ⟨v1, h1, hr, rfl, A1⟩ := IJ (av := [.str p0]) hx (A.cut 0)
 replace A := A.E8 A1
 refine BD 1 [] 6 hr H fun fr t H => ?_
 refine AG 1 [(7, .bool x1)] H fun fr H => ?_
 obtain ⟨x2, ho, hm⟩ := bind_some hm
 refine Aq 4 (fun fr' h' => Has fr' 17 [(0, .str p0), (1, .str p1), (11, .bool x2)] ∧ HH g h' [] F) ?_ ?_
 ·rcases Ac ho with ⟨hb, hm⟩ | ⟨hb, hm⟩
  ·replace H := H.kn 7 hb
   obtain ⟨x3, hx, hm⟩ := bind_some hm
   obtain ⟨v1, h3, hr, rfl, A1⟩ := IJ (av := [.str p1]) hx (A.cut 0)
   replace A := A.E8 A1
   refine BD 1 [] 9 hr H fun fr t H => ?_
   refine AG 2 [(11, .bool (!x3))] H fun fr H => ?_
   obtain rfl := Ag hm
   exact at_nil ⟨H.ls, A⟩
  replace H := H.kn 7 hb
  refine AG 4 [(11, .bool false)] H fun fr H => ?_
  obtain rfl := Ag hm
  exact at_nil ⟨H.ls, A⟩
 clear A
 intro t fr h2 hK
 obtain ⟨H, A⟩ := hK
 refine AG 1 [(12, .bool x2)] H fun fr H => Aq 4 (fun fr' h' => h2 = h' ∧ Has fr' 17 [(16, .bool (x2 || (Op.bytesLess p0 p1)))]) ?_ ?_
 ·cases hb : (x2 : Bool) with
  | true =>
   replace H := H.kn 12 hb
   exact AG 4 [(16, .bool true)] H fun fr H => Ap H hb
  | false =>
   replace H := H.kn 12 hb
   exact AG 4 [(16, .bool (Op.bytesLess p0 p1))] H fun fr H => Ap H hb
 intro t fr h' hK
 obtain ⟨e, H⟩ := hK
 subst e
 refine AP 1 [(4, .bool (x2 || (Op.bytesLess p0 p1)))] H fun fr H => AY ?_
 obtain rfl := Ag hm
 exact ⟨.inl rfl, _, rH H, rfl, A⟩
def Df (p0 : List UInt8) : Option (Bool) :=
 some (!(p0 == p0))
theorem G5 {p0 q0} (hm : Df p0 = some q0) (A : HH g h [] F) (hc : BH (cfg.still 266) av = [.str p0] := by kernel_rfl) : ∃ v h', BN cfg g h 266 av v h' ∧ v = .bool q0 ∧ HH g h' [] F := by
 refine Dr 6 [.tmp 2] hc ?_
 clear hc
 unfold Df at hm
 refine bg 6 [(0, .str p0)] fun fr H => ?_
 refine AH 1 (Bn 1 [] 4 H fun fr H => AP 4 [(2, .bool (!(p0 == p0)))] H fun fr H => AY ?_)
 obtain rfl := Ag hm
 exact ⟨.inl rfl, _, rH H, rfl, A⟩
def BB (p0 : List (List UInt8)) (p1 : List UInt8) (s : Int × Int) : Option ((Int × Int) ⊕ ((Int))) :=
 match s with
 | (x1, x2) => Af (decide (x1 < x2)) ((GP p0 (IntKind.i64.wrap (CE .u64 (IntKind.u64.wrap (IntKind.i64.wrap (x1 + x2))) (1 : Int)))).bind fun x4 => (E5 x4 p1).bind fun x5 => Af x5 (some (.inl (IntKind.i64.wrap ((IntKind.i64.wrap (CE .u64 (IntKind.u64.wrap (IntKind.i64.wrap (x1 + x2))) (1 : Int))) + 1), x2))) (some (.inl (x1, IntKind.i64.wrap (CE .u64 (IntKind.u64.wrap (IntKind.i64.wrap (x1 + x2))) (1 : Int)))))) (some (.inr x1))
def Bp (p0 : List (List UInt8)) (p1 : List UInt8) : Option (Int × Bool) :=
 (loop (BB p0 p1) ((0 : Int), (p0.length : Int))).bind fun x3 => (Af (decide (x3 < (p0.length : Int))) ((GP p0 x3).bind fun x7 => (Af (x7 == p1) (some true) ((GP p0 x3).bind fun x9 => (Df x9).bind fun x10 => (Af x10 ((Df p1).bind fun x12 => some x12) (some false) : Option (Bool)).bind fun x11 => some x11) : Option (Bool)).bind fun x8 => some x8) (some false) : Option (Bool)).bind fun x6 => some (x3, x6)
theorem Fw {p0 p1 rp0 q0 q1} (hm : Bp p0 p1 = some (q0, q1)) (A : HH g h [.AL rp0 9 (AL eS p0)] F) (hc : BH (cfg.still 202) av = [AF rp0 p0.length, .str p1] := by kernel_rfl) : ∃ v h', BN cfg g h 202 av v h' ∧ v = .tuple [Ai q0, .bool q1] ∧ HH g h' [.AL rp0 9 (AL eS p0)] F := by
 refine Dr 54 [.tmp 4, .tmp 5] hc ?_
 clear hc
 unfold Bp at hm
 refine bg 54 [(0, AF rp0 p0.length), (1, .str p1)] fun fr H => ?_
 refine AH 2 (Bn 2 [] 3 H fun fr H => Bn 3 [(6, Ai (p0.length : Int))] 3 H fun fr H => AP 3 [(7, Ai 0), (8, Ai (p0.length : Int))] H fun fr H => AV (Aa (id := 0) (by kernel_rfl) ?_))
 obtain ⟨o1, ho, hm⟩ := bind_some hm
 refine BG (Q' := fun e fr' h' => (∃ x3, e = .exit 0 ∧ x3 = o1 ∧ Has fr' 54 [(0, AF rp0 p0.length), (1, .str p1), (6, Ai (p0.length : Int)), (7, Ai x3)] ∧ HH g h' [.AL rp0 9 (AL eS p0)] F) ∨ False) ?_ ?_
 ·refine Bv (by kernel_rfl) (fun (s : Int × Int) fr' h' => ∃ x1 x2, (x1, x2) = s ∧ Has fr' 54 [(0, AF rp0 p0.length), (1, .str p1), (6, Ai (p0.length : Int)), (7, Ai x1), (8, Ai x2)] ∧ HH g h' [.AL rp0 9 (AL eS p0)] F) ho ⟨_, _, rfl, H.ls, A⟩ ?_
  clear ho hm H A
  intro s q fr h1 hI hm
  obtain ⟨x1, x2, rfl, H, A⟩ := hI
  unfold BB at hm
  refine AV (AH 3 (AP 3 [(15, .bool (decide (x1 < x2)))] H fun fr H => Ak 15 H hm (fun hb hm H => ?_) fun hb hm H => ?_))
  ·refine Br id (Aa (id := 1) (by kernel_rfl) ?_)
   refine AH 7 (Bn 7 [(9, Ai (IntKind.i64.wrap (CE .u64 (IntKind.u64.wrap (IntKind.i64.wrap (x1 + x2))) (1 : Int))))] 6 H fun fr H => ?_)
   obtain ⟨x4, hx, hm⟩ := bind_some hm
   obtain ⟨i1, er1, _, hx, hq1⟩ := HH.Ll encS (by decide) A 0 (xs := p0) rfl hx
   refine Ax 2 [] 24 (.ptr (some (i1, (IntKind.i64.wrap (CE .u64 (IntKind.u64.wrap (IntKind.i64.wrap (x1 + x2))) (1 : Int))).toNat * 1))) h1 H (fun fr => .of (D7 (s := DP rp0 p0.length) (by kernel_rfl) hx)) fun fr t H => ?_
   refine As 25 _ _ H (fun fr => .of (DU (by kernel_rfl) (EP encS (HH.row A 0 rfl er1) hq1 (o := 0) rfl))) fun fr t H => ?_
   obtain ⟨x5, hx, hm⟩ := bind_some hm
   obtain ⟨v1, h2, hr, rfl, A1⟩ := MM (av := [.str x4, .str p1]) hx (A.cut 0)
   replace A := A.E8 A1
   refine BD 1 [] 27 hr H fun fr t H => ?_
   refine BF id (Ak 27 H hm (fun hb hm H => ?_) fun hb hm H => ?_)
   ·refine ED 3 (Bk 3 [(0, AF rp0 p0.length), (1, .str p1), (6, Ai (p0.length : Int)), (7, Ai (IntKind.i64.wrap ((IntKind.i64.wrap (CE .u64 (IntKind.u64.wrap (IntKind.i64.wrap (x1 + x2))) (1 : Int))) + 1))), (8, Ai x2)] H fun fr H => at_nil ?_)
    exact nx hm ⟨_, _, rfl, H.ls, A⟩
   refine ED 2 (Bk 2 [(0, AF rp0 p0.length), (1, .str p1), (6, Ai (p0.length : Int)), (7, Ai x1), (8, Ai (IntKind.i64.wrap (CE .u64 (IntKind.u64.wrap (IntKind.i64.wrap (x1 + x2))) (1 : Int))))] H fun fr H => at_nil ?_)
   exact nx hm ⟨_, _, rfl, H.ls, A⟩
  refine Bh (i := 0) (by kernel_rfl) ?_
  exact nr hm fun e => .inl ⟨_, rfl, e, H.ls, A⟩
 clear ho
 clear A
 intro e fr h3 hQ
 rcases hQ with ⟨x3, rfl, rfl, H, A⟩ | hF
 ·show AW _ _ _ _ _ _ _
  refine AH 25 (AG 5 [(31, Ai x3), (35, .bool (decide (x3 < (p0.length : Int))))] H fun fr H => ?_)
  obtain ⟨x6, ho, hm⟩ := bind_some hm
  refine Aq 18 (fun fr' h' => Has fr' 54 [(31, Ai x3), (53, .bool x6)] ∧ HH g h' [.AL rp0 9 (AL eS p0)] F) ?_ ?_
  ·rcases Ac ho with ⟨hb, hm⟩ | ⟨hb, hm⟩
   ·replace H := H.kn 35 hb
    obtain ⟨x7, hx, hm⟩ := bind_some hm
    obtain ⟨i2, er2, _, hx, hq2⟩ := HH.Ll encS (by decide) A 0 (xs := p0) rfl hx
    refine Ax 2 [] 38 (.ptr (some (i2, x3.toNat * 1))) h3 H (fun fr => .of (D7 (s := DP rp0 p0.length) (by kernel_rfl) hx)) fun fr t H => ?_
    refine As 39 _ _ H (fun fr => .of (DU (by kernel_rfl) (EP encS (HH.row A 0 rfl er2) hq2 (o := 0) rfl))) fun fr t H => ?_
    refine AG 3 [(42, .bool (x7 == p1))] H fun fr H => ?_
    obtain ⟨x8, ho, hm⟩ := bind_some hm
    refine Aq 10 (fun fr' h' => Has fr' 54 [(31, Ai x3), (35, .bool true), (52, .bool x8)] ∧ HH g h' [.AL rp0 9 (AL eS p0)] F) ?_ ?_
    ·rcases Ac ho with ⟨hb, hm⟩ | ⟨hb, hm⟩
     ·replace H := H.kn 42 hb
      refine AG 10 [(52, .bool true)] H fun fr H => ?_
      obtain rfl := Ag hm
      exact at_nil ⟨H.ls, A⟩
     replace H := H.kn 42 hb
     obtain ⟨x9, hx, hm⟩ := bind_some hm
     obtain ⟨i3, er3, _, hx, hq3⟩ := HH.Ll encS (by decide) A 0 (xs := p0) rfl hx
     refine Ax 2 [] 45 (.ptr (some (i3, x3.toNat * 1))) h3 H (fun fr => .of (D7 (s := DP rp0 p0.length) (by kernel_rfl) hx)) fun fr t H => ?_
     refine As 46 _ _ H (fun fr => .of (DU (by kernel_rfl) (EP encS (HH.row A 0 rfl er3) hq3 (o := 0) rfl))) fun fr t H => ?_
     obtain ⟨x10, hx, hm⟩ := bind_some hm
     obtain ⟨v1, h6, hr, rfl, A1⟩ := G5 (av := [.str x9]) hx (A.cut 0)
     replace A := A.E8 A1
     refine A8 47 hr H fun fr t H => ?_
     refine AG 1 [(48, .bool x10)] H fun fr H => ?_
     obtain ⟨x11, ho, hm⟩ := bind_some hm
     refine Aq 3 (fun fr' h' => Has fr' 54 [(31, Ai x3), (35, .bool true), (42, .bool false), (51, .bool x11)] ∧ HH g h' [.AL rp0 9 (AL eS p0)] F) ?_ ?_
     ·rcases Ac ho with ⟨hb, hm⟩ | ⟨hb, hm⟩
      ·replace H := H.kn 48 hb
       obtain ⟨x12, hx, hm⟩ := bind_some hm
       obtain ⟨v1, h8, hr, rfl, A1⟩ := G5 (av := [.str p1]) hx (A.cut 0)
       replace A := A.E8 A1
       refine BD 1 [] 50 hr H fun fr t H => ?_
       refine AG 1 [(51, .bool x12)] H fun fr H => ?_
       obtain rfl := Ag hm
       exact at_nil ⟨H.ls, A⟩
      replace H := H.kn 48 hb
      refine AG 3 [(51, .bool false)] H fun fr H => ?_
      obtain rfl := Ag hm
      exact at_nil ⟨H.ls, A⟩
     clear A
     intro t fr h7 hK
     obtain ⟨H, A⟩ := hK
     refine AG 1 [(52, .bool x11)] H fun fr H => ?_
     obtain rfl := Ag hm
     exact at_nil ⟨H.ls, A⟩
    clear A
    intro t fr h5 hK
    obtain ⟨H, A⟩ := hK
    refine AG 1 [(53, .bool x8)] H fun fr H => ?_
    obtain rfl := Ag hm
    exact at_nil ⟨H.ls, A⟩
   replace H := H.kn 35 hb
   refine AG 18 [(53, .bool false)] H fun fr H => ?_
   obtain rfl := Ag hm
   exact at_nil ⟨H.ls, A⟩
  clear A
  intro t fr h4 hK
  obtain ⟨H, A⟩ := hK
  refine AP 2 [(4, Ai x3), (5, .bool x6)] H fun fr H => AY ?_
  obtain ⟨rfl, rfl⟩ := C9 hm
  exact ⟨.inl rfl, _, rH H, rfl, A⟩
 exact hF.elim
def H0 (p0 : List UInt8) : Option (Bool) :=
 (JM).bind fun x1 => (Bp x1 p0).bind fun (x2, x3) => some x3
theorem Qf {p0 q0} (hm : H0 p0 = some q0) (A : HH g h [] F) (hc : BH (cfg.still 139) av = [.str p0] := by kernel_rfl) : ∃ v h', BN cfg g h 139 av v h' ∧ v = .bool q0 ∧ HH g h' [] F := by
 refine Dr 12 [.tmp 2] hc ?_
 clear hc
 unfold H0 at hm
 refine bg 12 [(0, .str p0)] fun fr H => ?_
 refine AH 1 (Bn 1 [] 8 H fun fr H => ?_)
 obtain ⟨x1, hx, hm⟩ := bind_some hm
 obtain ⟨v1, h1, hr, rqw1, rfl, A1⟩ := Qc (av := []) hx (A.cut 0)
 replace A := A.XN A1
 refine A8 6 hr H fun fr t H => ?_
 obtain ⟨⟨x2, x3⟩, hx, hm⟩ := bind_some hm
 obtain ⟨v1, h2, hr, rfl, A1⟩ := Fw (av := [AF rqw1 x1.length, .str p0]) hx (A.cut 1)
 replace A := A.g11 A1
 refine BD 1 [] 8 hr H fun fr t H => ?_
 refine Bn 5 [(4, .bool x3)] 2 H fun fr H => AP 2 [(2, .bool x3)] H fun fr H => AY ?_
 obtain rfl := Ag hm
 refine ⟨.inl rfl, .bool x3, rH H, ?_⟩
 replace A := A.d0
 exact ⟨rfl, A⟩
def FN (x1 : List (List UInt8)) (s : Int) : Option ((Int) ⊕ ((Unit) ⊕ ((List UInt8) × Bool))) :=
 match s with
 | x2 => Af (decide (x2 < (x1.length : Int))) ((GP x1 x2).bind fun x5 => (H0 x5).bind fun x6 => Af x6 (some (.inr (.inr (x5, true)))) (some (.inl (IntKind.i64.wrap (x2 + 1))))) (some (.inr (.inl ())))
def Hm (p0 : List UInt8) : Option ((List UInt8) × Bool) :=
 (EV p0).bind fun x1 => (loop (FN x1) (0 : Int)).bind fun o1 => (match o1 with | .inl _ => some (([] : List UInt8), false) | .inr (x3, x4) => some (x3, x4))
theorem Qi {p0 q0 q1} (hm : Hm p0 = some (q0, q1)) (A : HH g h [] F) (hc : BH (cfg.still 77) av = [.str p0] := by kernel_rfl) : ∃ v h', BN cfg g h 77 av v h' ∧ v = .tuple [.str q0, .bool q1] ∧ HH g h' [] F := by
 refine Dr 17 [.tmp 2, .tmp 3] hc ?_
 clear hc
 unfold Hm at hm
 refine bg 17 [(0, .str p0)] fun fr H => ?_
 refine AH 2 (AP 2 [] H fun fr H => AV (AH 4 ?_))
 obtain ⟨x1, hx, hm⟩ := bind_some hm
 obtain ⟨v1, h1, hr, rfl, A1⟩ := HC (av := [.str p0]) hx (A.cut 0)
 replace A := A.E8 A1
 refine BD 1 [] 7 hr H fun fr t H => ?_
 refine AP 2 [(8, Ai (x1.length : Int)), (9, Ai 0)] H fun fr H => Aa (id := 0) (by kernel_rfl) ?_
 obtain ⟨o1, ho, hm⟩ := bind_some hm
 refine BG (Q' := fun e fr' h' => (e = .exit 0 ∧ .inl () = o1 ∧ Has fr' 17 [] ∧ HH g h' [] F) ∨ (∃ x3 x4, e = .ret ∧ .inr (x3, x4) = o1 ∧ Has fr' 17 [(2, .str x3), (3, .bool x4)] ∧ HH g h' [] F) ∨ False) ?_ ?_
 ·refine Bv (by kernel_rfl) (fun (s : Int) fr' h' => ∃ x2, x2 = s ∧ Has fr' 17 [(7, vs eS x1), (8, Ai (x1.length : Int)), (9, Ai x2)] ∧ HH g h' [] F) ho ⟨_, rfl, H.ls, A⟩ ?_
  clear ho hm H A
  intro s q fr h2 hI hm
  obtain ⟨x2, rfl, H, A⟩ := hI
  unfold FN at hm
  refine AH 1 (AP 1 [(10, .bool (decide (x2 < (x1.length : Int))))] H fun fr H => AV (Ak 10 H hm (fun hb hm H => ?_) fun hb hm H => ?_))
  ·refine Br id (AV (Aa (id := 1) (by kernel_rfl) ?_))
   refine AH 3 ?_
   obtain ⟨x5, hx, hm⟩ := bind_some hm
   refine As 11 (.BC [.str x5]) h2 H (fun fr => .of (Ht (e := eS) (x := x5) encS (by decide) (by kernel_rfl) hx)) fun fr t H => ?_
   refine As 12 (.str x5) h2 H (fun fr => .of (IQ (by kernel_rfl))) fun fr t H => ?_
   refine Bn 1 [(5, .str x5)] 2 H fun fr H => ?_
   obtain ⟨x6, hx, hm⟩ := bind_some hm
   obtain ⟨v1, h3, hr, rfl, A1⟩ := Qf (av := [.str x5]) hx (A.cut 0)
   replace A := A.E8 A1
   refine BD 1 [] 14 hr H fun fr t H => ?_
   refine BF id (Ak 14 H hm (fun hb hm H => ?_) fun hb hm H => ?_)
   ·refine AH 3 (AP 3 [(2, .str x5), (3, .bool true)] H fun fr H => AY ?_)
    exact nr hm fun e => Or.inr (.inl ⟨_, _, rfl, e, H.ls, A⟩)
   refine Fg 2 id (Bk 2 [(7, vs eS x1), (8, Ai (x1.length : Int)), (9, Ai (IntKind.i64.wrap (x2 + 1)))] H fun fr H => at_nil ?_)
   exact nx hm ⟨_, rfl, H.ls, A⟩
  refine Bh (i := 0) (by kernel_rfl) ?_
  exact nr hm fun e => .inl ⟨rfl, e, H.ls, A⟩
 clear ho
 clear A
 intro e fr h4 hQ
 rcases hQ with ⟨rfl, rfl, H, A⟩ | ⟨x3, x4, rfl, rfl, H, A⟩ | hF
 ·show AW _ _ _ _ _ _ _
  refine AH 2 (AP 2 [(2, .str ([] : List UInt8)), (3, .bool false)] H fun fr H => AY ?_)
  obtain ⟨rfl, rfl⟩ := C9 hm
  exact ⟨.inl rfl, _, rH H, rfl, A⟩
 ·obtain ⟨rfl, rfl⟩ := C9 hm
  exact ⟨.inl rfl, _, rH H, rfl, A⟩
 exact hF.elim
def FY (p0 : List UInt8) (p1 : List UInt8) : Option (Bool) :=
 (Af (decide ((p0.length : Int) ≥ (p1.length : Int))) ((Ln p0 (some (IntKind.i64.wrap ((p0.length : Int) - (p1.length : Int)))) none).bind fun x2 => some (x2 == p1)) (some false) : Option (Bool)).bind fun x1 => some x1
theorem JT {p0 p1 q0} (hm : FY p0 p1 = some q0) (A : HH g h [] F) (hc : BH (cfg.still 204) av = [.str p0, .str p1] := by kernel_rfl) : ∃ v h', BN cfg g h 204 av v h' ∧ v = .bool q0 ∧ HH g h' [] F := by
 refine Dr 21 [.tmp 4] hc ?_
 clear hc
 unfold FY at hm
 refine bg 21 [(0, .str p0), (1, .str p1)] fun fr H => ?_
 refine AH 1 (Bn 1 [] 17 H fun fr H => AG 6 [(10, .bool (decide ((p0.length : Int) ≥ (p1.length : Int))))] H fun fr H => ?_)
 obtain ⟨x1, ho, hm⟩ := bind_some hm
 refine Aq 10 (fun fr' h' => Has fr' 21 [(20, .bool x1)] ∧ HH g h' [] F) ?_ ?_
 ·rcases Ac ho with ⟨hb, hm⟩ | ⟨hb, hm⟩
  ·replace H := H.kn 10 hb
   obtain ⟨x2, hx, hm⟩ := bind_some hm
   refine Ax 6 [] 17 (.str x2) h H (fun fr => .of (JV (k := .i64) (k' := .i64) (lo := (some (IntKind.i64.wrap ((p0.length : Int) - (p1.length : Int))))) (hi := none) (by kernel_rfl) hx)) fun fr t H => ?_
   refine AG 3 [(20, .bool (x2 == p1))] H fun fr H => ?_
   obtain rfl := Ag hm
   exact at_nil ⟨H.ls, A⟩
  replace H := H.kn 10 hb
  refine AG 10 [(20, .bool false)] H fun fr H => ?_
  obtain rfl := Ag hm
  exact at_nil ⟨H.ls, A⟩
 clear A
 intro t fr h1 hK
 obtain ⟨H, A⟩ := hK
 refine AP 1 [(4, .bool x1)] H fun fr H => AY ?_
 obtain rfl := Ag hm
 exact ⟨.inl rfl, _, rH H, rfl, A⟩
def FJ (p0 : List UInt8) (p1 : List UInt8) : Option (Bool) :=
 (FY p0 p1).bind fun x1 => some x1
theorem Hy {p0 p1 q0} (hm : FJ p0 p1 = some q0) (A : HH g h [] F) (hc : BH (cfg.still 140) av = [.str p0, .str p1] := by kernel_rfl) : ∃ v h', BN cfg g h 140 av v h' ∧ v = .bool q0 ∧ HH g h' [] F := by
 refine Dr 8 [.tmp 4] hc ?_
 clear hc
 unfold FJ at hm
 refine bg 8 [(0, .str p0), (1, .str p1)] fun fr H => ?_
 refine AH 1 (Bn 1 [] 4 H fun fr H => ?_)
 obtain ⟨x1, hx, hm⟩ := bind_some hm
 obtain ⟨v1, h1, hr, rfl, A1⟩ := JT (av := [.str p0, .str p1]) hx (A.cut 0)
 replace A := A.E8 A1
 refine BD 2 [] 7 hr H fun fr t H => ?_
 refine AP 1 [(4, .bool x1)] H fun fr H => AY ?_
 obtain rfl := Ag hm
 exact ⟨.inl rfl, _, rH H, rfl, A⟩
def KK (p0 : List UInt8) : Option (Bool) :=
 (GJ p0).bind fun x1 => (Cv x1 ([46, 35] : List UInt8)).bind fun x2 => (Af x2 (some true) ((FJ x1 ([126] : List UInt8)).bind fun x4 => some x4) : Option (Bool)).bind fun x3 => Af x3 (some true) ((Af (decide ((x1.length : Int) > 1)) ((Cv x1 ([35] : List UInt8)).bind fun x6 => some x6) (some false) : Option (Bool)).bind fun x5 => (Af x5 ((FJ x1 ([35] : List UInt8)).bind fun x8 => some x8) (some false) : Option (Bool)).bind fun x7 => some x7)
theorem PO {p0 q0} (hm : KK p0 = some q0) (A : HH g h [] F) (hc : BH (cfg.still 78) av = [.str p0] := by kernel_rfl) : ∃ v h', BN cfg g h 78 av v h' ∧ v = .bool q0 ∧ HH g h' [] F := by
 refine Dr 23 [.tmp 2] hc ?_
 clear hc
 unfold KK at hm
 refine bg 23 [(0, .str p0)] fun fr H => ?_
 refine AH 1 (Bn 1 [] 3 H fun fr H => ?_)
 obtain ⟨x1, hx, hm⟩ := bind_some hm
 obtain ⟨v1, h1, hr, rfl, A1⟩ := L4 (av := [.str p0]) hx (A.cut 0)
 replace A := A.E8 A1
 refine BD 1 [] 5 hr H fun fr t H => ?_
 refine AP 1 [(3, .str x1)] H fun fr H => AV (AH 6 ?_)
 obtain ⟨x2, hx, hm⟩ := bind_some hm
 obtain ⟨v1, h2, hr, rfl, A1⟩ := GB (av := [.str x1, .str ([46, 35] : List UInt8)]) hx (A.cut 0)
 replace A := A.E8 A1
 refine BD 1 [] 7 hr H fun fr t H => ?_
 refine AG 1 [(8, .bool x2)] H fun fr H => ?_
 obtain ⟨x3, ho, hm⟩ := bind_some hm
 refine Aq 3 (fun fr' h' => Has fr' 23 [(3, .str x1), (11, .bool x3)] ∧ HH g h' [] F) ?_ ?_
 ·rcases Ac ho with ⟨hb, hm⟩ | ⟨hb, hm⟩
  ·replace H := H.kn 8 hb
   refine AG 3 [(11, .bool true)] H fun fr H => ?_
   obtain rfl := Ag hm
   exact at_nil ⟨H.ls, A⟩
  replace H := H.kn 8 hb
  obtain ⟨x4, hx, hm⟩ := bind_some hm
  obtain ⟨v1, h4, hr, rfl, A1⟩ := Hy (av := [.str x1, .str ([126] : List UInt8)]) hx (A.cut 0)
  replace A := A.E8 A1
  refine BD 1 [] 10 hr H fun fr t H => ?_
  refine AG 1 [(11, .bool x4)] H fun fr H => ?_
  obtain rfl := Ag hm
  exact at_nil ⟨H.ls, A⟩
 clear A
 intro t fr h3 hK
 obtain ⟨H, A⟩ := hK
 refine BF id (Ak 11 H hm (fun hb hm H => ?_) fun hb hm H => ?_)
 ·refine AH 1 (AP 1 [(2, .bool true)] H fun fr H => AY ?_)
  obtain rfl := Ag hm
  exact ⟨.inl rfl, _, rH H, rfl, A⟩
 refine Cc 12 id (AG 4 [(15, .bool (decide ((x1.length : Int) > 1)))] H fun fr H => ?_)
 obtain ⟨x5, ho, hm⟩ := bind_some hm
 refine Aq 3 (fun fr' h' => Has fr' 23 [(3, .str x1), (18, .bool x5)] ∧ HH g h' [] F) ?_ ?_
 ·rcases Ac ho with ⟨hb, hm⟩ | ⟨hb, hm⟩
  ·replace H := H.kn 15 hb
   obtain ⟨x6, hx, hm⟩ := bind_some hm
   obtain ⟨v1, h6, hr, rfl, A1⟩ := GB (av := [.str x1, .str ([35] : List UInt8)]) hx (A.cut 0)
   replace A := A.E8 A1
   refine BD 1 [] 17 hr H fun fr t H => ?_
   refine AG 1 [(18, .bool x6)] H fun fr H => ?_
   obtain rfl := Ag hm
   exact at_nil ⟨H.ls, A⟩
  replace H := H.kn 15 hb
  refine AG 3 [(18, .bool false)] H fun fr H => ?_
  obtain rfl := Ag hm
  exact at_nil ⟨H.ls, A⟩
 clear A
 intro t fr h5 hK
 obtain ⟨H, A⟩ := hK
 refine AG 1 [(19, .bool x5)] H fun fr H => ?_
 obtain ⟨x7, ho, hm⟩ := bind_some hm
 refine Aq 3 (fun fr' h' => Has fr' 23 [(22, .bool x7)] ∧ HH g h' [] F) ?_ ?_
 ·rcases Ac ho with ⟨hb, hm⟩ | ⟨hb, hm⟩
  ·replace H := H.kn 19 hb
   obtain ⟨x8, hx, hm⟩ := bind_some hm
   obtain ⟨v1, h8, hr, rfl, A1⟩ := Hy (av := [.str x1, .str ([35] : List UInt8)]) hx (A.cut 0)
   replace A := A.E8 A1
   refine BD 1 [] 21 hr H fun fr t H => ?_
   refine AG 1 [(22, .bool x8)] H fun fr H => ?_
   obtain rfl := Ag hm
   exact at_nil ⟨H.ls, A⟩
  replace H := H.kn 19 hb
  refine AG 3 [(22, .bool false)] H fun fr H => ?_
  obtain rfl := Ag hm
  exact at_nil ⟨H.ls, A⟩
 clear A
 intro t fr h7 hK
 obtain ⟨H, A⟩ := hK
 refine AP 1 [(2, .bool x7)] H fun fr H => AY ?_
 obtain rfl := Ag hm
 exact ⟨.inl rfl, _, rH H, rfl, A⟩
def CS (p0 : BO) (p1 : AK) : Option (Int) :=
 (EA p0.AU p1.Name).bind fun (x1, x2) => Af x2 (some (1 : Int)) ((Hm p1.Name).bind fun (x3, x4) => Af (x4 && p0.c_.G1) (some (2 : Int)) ((Af p0.c_.BE ((KK p1.Name).bind fun x6 => some x6) (some false) : Option (Bool)).bind fun x5 => Af x5 (some (3 : Int)) (some (0 : Int))))
theorem Hq {p0 p1 bp0 rp0_14 rp0_15 bp0_16 rp0_16_0 bp0_17 q0} (hm : CS p0 p1 = some q0) (A : HH g h [.obj bp0 (.cells none 2 [vs AE p0.c_.Ah, vs AE p0.c_.Aj, vs AI p0.c_.Bj, .bool p0.c_.G1, .bool p0.c_.BE, Ai p0.c_.Bc, .bool p0.c_.B4, Ai p0.c_.Ay.Cf, Ai p0.c_.Ay.Bb, Ai p0.c_.Ge, Ai p0.c_.Bz, Ai p0.c_.Name, Ai p0.c_.Head, Ai p0.c_.BU, AF rp0_14 p0.AR.length, AF rp0_15 p0.AU.length, .ptr (some (bp0_16, 0)), .ptr (some (bp0_17, 0))]), .AL rp0_14 136 (AL (eP AB) p0.AR), .AL rp0_15 136 (AL (eP AB) p0.AU), .obj bp0_16 (.cells none 2 [AF rp0_16_0 p0.AX.l_.length, Ai p0.AX.BM]), .AL rp0_16_0 142 (AL (eP AJ) p0.AX.l_), .obj bp0_17 (.cells none 2 ([Ai p0.Ae.n_, Ai p0.Ae.An] ++ (CW 257 (AD.int .i64) p0.Ae.Aw ++ [])))] F) (hc : BH (cfg.still 40) av = [.ptr (some (bp0, 0)), .agg (AA p1)] := by kernel_rfl) : ∃ v h', BN cfg g h 40 av v h' ∧ v = Ai q0 ∧ HH g h' [.obj bp0 (.cells none 2 [vs AE p0.c_.Ah, vs AE p0.c_.Aj, vs AI p0.c_.Bj, .bool p0.c_.G1, .bool p0.c_.BE, Ai p0.c_.Bc, .bool p0.c_.B4, Ai p0.c_.Ay.Cf, Ai p0.c_.Ay.Bb, Ai p0.c_.Ge, Ai p0.c_.Bz, Ai p0.c_.Name, Ai p0.c_.Head, Ai p0.c_.BU, AF rp0_14 p0.AR.length, AF rp0_15 p0.AU.length, .ptr (some (bp0_16, 0)), .ptr (some (bp0_17, 0))]), .AL rp0_14 136 (AL (eP AB) p0.AR), .AL rp0_15 136 (AL (eP AB) p0.AU), .obj bp0_16 (.cells none 2 [AF rp0_16_0 p0.AX.l_.length, Ai p0.AX.BM]), .AL rp0_16_0 142 (AL (eP AJ) p0.AX.l_), .obj bp0_17 (.cells none 2 ([Ai p0.Ae.n_, Ai p0.Ae.An] ++ (CW 257 (AD.int .i64) p0.Ae.Aw ++ [])))] F := by
 refine Dr 44 [.tmp 4] hc ?_
 clear hc
 unfold CS at hm
 refine bg 44 [(0, .ptr (some (bp0, 0))), (1, .agg (AA p1))] fun fr H => ?_
 refine AH 2 ?_
 obtain ⟨h1, e1, A⟩ := A.pu (.cells none 2 (AA p1))
 refine A7 3 (.ptr (some (h.size, 0))) e1 H fun fr t H => ?_
 refine AP 1 [] H fun fr H => AV (AV (FF 1 12 ?_))
 refine AZ 3 [] 13 1 15 A H fun fr t H => ?_
 refine AZ 1 [] 15 0 0 A H fun fr t H => ?_
 replace A : HH g h1 [_, .obj h.size (.cells none 2 (AA p1)), _, _, _, _, _] F := (A.front 3 rfl)
 obtain ⟨⟨x1, x2⟩, hx, hm⟩ := bind_some hm
 obtain ⟨v1, h2, hr, rfl, A1⟩ := Hu (av := [AF rp0_15 p0.AU.length, .str p1.Name]) hx (A.cut 1)
 replace A := A.g11 A1
 refine A8 16 hr H fun fr t H => ?_
 refine Bn 5 [(6, .bool x2)] 1 H fun fr H => AP 1 [(19, .bool x2)] H fun fr H => Ak 19 H hm (fun hb hm H => ?_) fun hb hm H => ?_
 ·refine AH 1 (AP 1 [(4, Ai 1)] H fun fr H => AY ?_)
  obtain rfl := Ag hm
  refine ⟨.inl rfl, Ai 1, rH H, ?_⟩
  replace A := A.k6 2 3 0 4 5 6
  exact ⟨rfl, A⟩
 refine Br id (AV (AH 8 (AZ 1 [] 22 1 0 A H fun fr t H => ?_)))
 obtain ⟨⟨x3, x4⟩, hx, hm⟩ := bind_some hm
 obtain ⟨v1, h3, hr, rfl, A1⟩ := Qi (av := [.str p1.Name]) hx (A.cut 0)
 replace A := A.E8 A1
 refine A8 23 hr H fun fr t H => ?_
 refine Bn 5 [(8, .bool x4)] 8 H fun fr H => AG 2 [(27, .bool x4)] H fun fr H => Aq 6 (fun fr' h' => h3 = h' ∧ Has fr' 44 [(0, .ptr (some (bp0, 0))), (3, .ptr (some (h.size, 0))), (33, .bool (x4 && p0.c_.G1))]) ?_ ?_
 ·cases hb : (x4 : Bool) with
  | true =>
   replace H := H.kn 27 hb
   refine AZ 4 [] 32 2 3 A H fun fr t H => ?_
   exact AG 1 [(33, .bool p0.c_.G1)] H fun fr H => Ap H hb
  | false =>
   replace H := H.kn 27 hb
   exact AG 6 [(33, .bool false)] H fun fr H => Ap H hb
 intro t fr h' hK
 obtain ⟨e, H⟩ := hK
 subst e
 refine BF id (Ak 33 H hm (fun hb hm H => ?_) fun hb hm H => ?_)
 ·refine AH 1 (AP 1 [(4, Ai 2)] H fun fr H => AY ?_)
  obtain rfl := Ag hm
  refine ⟨.inl rfl, Ai 2, rH H, ?_⟩
  replace A := A.k6 2 3 0 4 5 6
  exact ⟨rfl, A⟩
 refine Br id (AV (AH 10 (AZ 4 [] 38 2 4 A H fun fr t H => ?_)))
 refine AG 1 [(39, .bool p0.c_.BE)] H fun fr H => ?_
 obtain ⟨x5, ho, hm⟩ := bind_some hm
 refine Aq 4 (fun fr' h' => Has fr' 44 [(43, .bool x5)] ∧ HH g h' [.AL rp0_15 136 (AL (eP AB) p0.AU), .obj h.size (.cells none 2 (AA p1)), .obj bp0 (.cells none 2 [vs AE p0.c_.Ah, vs AE p0.c_.Aj, vs AI p0.c_.Bj, .bool p0.c_.G1, .bool p0.c_.BE, Ai p0.c_.Bc, .bool p0.c_.B4, Ai p0.c_.Ay.Cf, Ai p0.c_.Ay.Bb, Ai p0.c_.Ge, Ai p0.c_.Bz, Ai p0.c_.Name, Ai p0.c_.Head, Ai p0.c_.BU, AF rp0_14 p0.AR.length, AF rp0_15 p0.AU.length, .ptr (some (bp0_16, 0)), .ptr (some (bp0_17, 0))]), .AL rp0_14 136 (AL (eP AB) p0.AR), .obj bp0_16 (.cells none 2 [AF rp0_16_0 p0.AX.l_.length, Ai p0.AX.BM]), .AL rp0_16_0 142 (AL (eP AJ) p0.AX.l_), .obj bp0_17 (.cells none 2 ([Ai p0.Ae.n_, Ai p0.Ae.An] ++ (CW 257 (AD.int .i64) p0.Ae.Aw ++ [])))] F) ?_ ?_
 ·rcases Ac ho with ⟨hb, hm⟩ | ⟨hb, hm⟩
  ·replace H := H.kn 39 hb
   refine AZ 1 [] 41 1 0 A H fun fr t H => ?_
   obtain ⟨x6, hx, hm⟩ := bind_some hm
   obtain ⟨v1, h5, hr, rfl, A1⟩ := PO (av := [.str p1.Name]) hx (A.cut 0)
   replace A := A.E8 A1
   refine A8 42 hr H fun fr t H => ?_
   refine AG 1 [(43, .bool x6)] H fun fr H => ?_
   obtain rfl := Ag hm
   exact at_nil ⟨H.ls, A⟩
  replace H := H.kn 39 hb
  refine AG 4 [(43, .bool false)] H fun fr H => ?_
  obtain rfl := Ag hm
  exact at_nil ⟨H.ls, A⟩
 clear A
 intro t fr h4 hK
 obtain ⟨H, A⟩ := hK
 refine BF id (Ak 43 H hm (fun hb hm H => ?_) fun hb hm H => ?_)
 ·refine AH 1 (AP 1 [(4, Ai 3)] H fun fr H => AY ?_)
  obtain rfl := Ag hm
  refine ⟨.inl rfl, Ai 3, rH H, ?_⟩
  replace A := A.k6 2 3 0 4 5 6
  exact ⟨rfl, A⟩
 refine Cc 1 id (AP 1 [(4, Ai 0)] H fun fr H => AY ?_)
 obtain rfl := Ag hm
 refine ⟨.inl rfl, Ai 0, rH H, ?_⟩
 replace A := A.k6 2 3 0 4 5 6
 exact ⟨rfl, A⟩
def Gt (p0 : BA) (p2 : Int) (x1 : List (List UInt8)) (s : Int) : Option ((Int) ⊕ ((Unit) ⊕ (Bool))) :=
 match s with
 | x2 => Af (decide (x2 < (x1.length : Int))) (((Rn x1 none (some x2)).bind fun x5 => (Et x5).bind fun x6 => Af (!((Ew p0.DD x6).getD false)) (some (.inl ())) ((Af (x2 == (IntKind.i64.wrap ((x1.length : Int) - 1))) ((GP x1 x2).bind fun x8 => some (x8 == ([67, 65, 67, 72, 69, 68, 73, 82, 46, 84, 65, 71] : List UInt8))) (some false) : Option (Bool)).bind fun x7 => Af ((p2 != 1) || (!x7)) (some (.inr true)) (some (.inl ()))) : Option ((Unit) ⊕ (Bool))).bind fun o2 => (match o2 with | .inl _ => some (.inl (IntKind.i64.wrap (x2 + 1))) | .inr x4 => some (.inr (.inr x4)))) (some (.inr (.inl ())))
def Ey (p0 : BA) (p1 : List UInt8) (p2 : Int) : Option (Bool) :=
 Af ((decide (p2 < 1)) || (decide (p2 > 3))) (some false) ((EV p1).bind fun x1 => (loop (Gt p0 p2 x1) (0 : Int)).bind fun o1 => (match o1 with | .inl _ => Af (p2 == 3) ((Af (decide ((x1.length : Int) > 0)) ((Et x1).bind fun x10 => some ((Ew p0.DD x10).getD false)) (some false) : Option (Bool)).bind fun x9 => some x9) (some false) | .inr x3 => some x3))
theorem Kl {p0 p1 p2 bp0 bp0_0 q0} (hm : Ey p0 p1 p2 = some q0) (A : HH g h [.obj bp0 (.cells none 2 [.map (some bp0_0)]), .obj bp0_0 (.map 2 (BZ (fun k : List UInt8 => .str k) (fun v : Bool => .bool v) p0.DD))] F) (hc : BH (cfg.still 26) av = [.ptr (some (bp0, 0)), .str p1, Ai p2] := by kernel_rfl) : ∃ v h', BN cfg g h 26 av v h' ∧ v = .bool q0 ∧ HH g h' [.obj bp0 (.cells none 2 [.map (some bp0_0)]), .obj bp0_0 (.map 2 (BZ (fun k : List UInt8 => .str k) (fun v : Bool => .bool v) p0.DD))] F := by
 refine Dr 68 [.tmp 6] hc ?_
 clear hc
 unfold Ey at hm
 refine bg 68 [(0, .ptr (some (bp0, 0))), (1, .str p1), (2, Ai p2)] fun fr H => ?_
 refine AH 1 (AP 1 [] H fun fr H => AV (AH 6 (AG 3 [(12, .bool (decide (p2 < 1)))] H fun fr H => Aq 3 (fun fr' h' => h = h' ∧ Has fr' 68 [(0, .ptr (some (bp0, 0))), (1, .str p1), (2, Ai p2), (15, .bool ((decide (p2 < 1)) || (decide (p2 > 3))))]) ?_ ?_)))
 ·cases hb : (decide (p2 < 1) : Bool) with
  | true =>
   replace H := H.kn 12 hb
   exact AG 3 [(15, .bool true)] H fun fr H => Ap H hb
  | false =>
   replace H := H.kn 12 hb
   exact AG 3 [(15, .bool (decide (p2 > 3)))] H fun fr H => Ap H hb
 intro t fr h' hK
 obtain ⟨e, H⟩ := hK
 subst e
 refine BF id (Ak 15 H hm (fun hb hm H => ?_) fun hb hm H => ?_)
 ·refine AH 1 (AP 1 [(6, .bool false)] H fun fr H => AY ?_)
  obtain rfl := Ag hm
  exact ⟨.inl rfl, _, rH H, rfl, A⟩
 refine Cc 3 id ?_
 obtain ⟨x1, hx, hm⟩ := bind_some hm
 obtain ⟨v1, h1, hr, rfl, A1⟩ := HC (av := [.str p1]) hx (A.cut 0)
 replace A := A.E8 A1
 refine BD 1 [] 17 hr H fun fr t H => ?_
 refine AP 1 [(7, vs eS x1)] H fun fr H => AV (AH 3 (AP 3 [(19, Ai (x1.length : Int)), (20, Ai 0)] H fun fr H => Aa (id := 0) (by kernel_rfl) ?_))
 obtain ⟨o1, ho, hm⟩ := bind_some hm
 refine BG (Q' := fun e fr' h' => (e = .exit 0 ∧ .inl () = o1 ∧ Has fr' 68 [(0, .ptr (some (bp0, 0))), (2, Ai p2), (7, vs eS x1)] ∧ HH g h' [.obj bp0 (.cells none 2 [.map (some bp0_0)]), .obj bp0_0 (.map 2 (BZ (fun k : List UInt8 => .str k) (fun v : Bool => .bool v) p0.DD))] F) ∨ (∃ x3, e = .ret ∧ .inr x3 = o1 ∧ Has fr' 68 [(6, .bool x3)] ∧ HH g h' [.obj bp0 (.cells none 2 [.map (some bp0_0)]), .obj bp0_0 (.map 2 (BZ (fun k : List UInt8 => .str k) (fun v : Bool => .bool v) p0.DD))] F) ∨ False) ?_ ?_
 ·refine Bv (by kernel_rfl) (fun (s : Int) fr' h' => ∃ x2, x2 = s ∧ Has fr' 68 [(0, .ptr (some (bp0, 0))), (2, Ai p2), (7, vs eS x1), (19, Ai (x1.length : Int)), (20, Ai x2)] ∧ HH g h' [.obj bp0 (.cells none 2 [.map (some bp0_0)]), .obj bp0_0 (.map 2 (BZ (fun k : List UInt8 => .str k) (fun v : Bool => .bool v) p0.DD))] F) ho ⟨_, rfl, H.ls, A⟩ ?_
  clear ho hm H A
  intro s q fr h2 hI hm
  obtain ⟨x2, rfl, H, A⟩ := hI
  unfold Gt at hm
  refine AH 1 (AP 1 [(21, .bool (decide (x2 < (x1.length : Int))))] H fun fr H => AV (Ak 21 H hm (fun hb hm H => ?_) fun hb hm H => ?_))
  ·refine Br id (AV ?_)
   obtain ⟨o2, ho, hm⟩ := bind_some hm
   refine BG (Q' := fun e fr' h' => (e = .normal ∧ .inl () = o2 ∧ Has fr' 68 [(0, .ptr (some (bp0, 0))), (2, Ai p2), (7, vs eS x1), (19, Ai (x1.length : Int)), (20, Ai x2)] ∧ HH g h' [.obj bp0 (.cells none 2 [.map (some bp0_0)]), .obj bp0_0 (.map 2 (BZ (fun k : List UInt8 => .str k) (fun v : Bool => .bool v) p0.DD))] F) ∨ (∃ x4, e = .ret ∧ .inr x4 = o2 ∧ Has fr' 68 [(6, .bool x4)] ∧ HH g h' [.obj bp0 (.cells none 2 [.map (some bp0_0)]), .obj bp0_0 (.map 2 (BZ (fun k : List UInt8 => .str k) (fun v : Bool => .bool v) p0.DD))] F) ∨ False) ?_ ?_
   ·replace hm := ho
    clear ho
    refine Aa (id := 1) (by kernel_rfl) ?_
    refine AH 2 (AP 2 [(8, Ai x2)] H fun fr H => AV (AV (Kg 7 10 [(0, []), (1, []), (2, []), (3, []), (4, []), (5, []), (6, []), (7, [3]), (8, []), (9, [])] ?_)))
    refine AG 3 [(25, .ptr (some (bp0, 0)))] H fun fr H => CO 26 (.map (some bp0_0)) h2 [(3, bp0)] (g.Bm) H (fun fr => .of (DU (by kernel_rfl) (A.l1 0 0))) (fun fr H => ?_)
    refine AG 2 [(27, vs eS x1), (28, Ai x2)] H fun fr H => ?_
    obtain ⟨x5, hx, hm⟩ := bind_some hm
    refine CO 29 (vs eS x5) h2 [(3, bp0)] (g.Bm) H (fun fr => .of (UI (e := eS) encS (k := .i64) (k' := .i64) (lo := none) (hi := (some x2)) (by kernel_rfl) hx)) (fun fr H => ?_)
    have A1 := A.G4 0 (pr := [bp0]) (.cons 0 rfl (by simp [Ck.ids]) .nil)
    obtain ⟨x6, hx, hm⟩ := bind_some hm
    obtain ⟨v1, h3, hr, rfl, A1⟩ := Hi (av := [vs eS x5]) hx A1
    replace A := A.WQ A1
    refine CO 30 (.str x6) h3 [(3, bp0)] (bp0 :: g.Bm) H (fun fr => Steps.call (by kernel_rfl) hr) (fun fr H => ?_)
    refine CO 31 (.bool ((Ew p0.DD x6).getD false)) h3 [(8, bp0_0), (3, bp0)] (g.Bm) H (fun fr => .of (Rq (by kernel_rfl) (HH.TJ (kt := 9) (et := 4) (ek := fun k : List UInt8 => .str k) (ev := fun v : Bool => .bool v) (Rg (by kernel_rfl)) A 1 rfl (t := 115) (by kernel_rfl) (z := false) (by kernel_rfl) x6))) (fun fr H => ?_)
    refine AP 1 [(32, .bool (!((Ew p0.DD x6).getD false)))] H fun fr H => Ak 32 H hm (fun hb hm H => ?_) fun hb hm H => ?_
    ·refine Bh (i := 1) (by kernel_rfl) ?_
     exact .inl ⟨rfl, Ag hm, H.ls, A⟩
    refine Cc 13 id (AG 6 [(38, .bool (x2 == (IntKind.i64.wrap ((x1.length : Int) - 1))))] H fun fr H => ?_)
    obtain ⟨x7, ho, hm⟩ := bind_some hm
    refine Aq 6 (fun fr' h' => Has fr' 68 [(0, .ptr (some (bp0, 0))), (2, Ai p2), (7, vs eS x1), (19, Ai (x1.length : Int)), (20, Ai x2), (44, .bool x7)] ∧ HH g h' [.obj bp0 (.cells none 2 [.map (some bp0_0)]), .obj bp0_0 (.map 2 (BZ (fun k : List UInt8 => .str k) (fun v : Bool => .bool v) p0.DD))] F) ?_ ?_
    ·rcases Ac ho with ⟨hb, hm⟩ | ⟨hb, hm⟩
     ·replace H := H.kn 38 hb
      obtain ⟨x8, hx, hm⟩ := bind_some hm
      refine Ax 2 [] 41 (.BC [.str x8]) h3 H (fun fr => .of (Ht (e := eS) (x := x8) encS (by decide) (by kernel_rfl) hx)) fun fr t H => ?_
      refine As 42 (.str x8) h3 H (fun fr => .of (IQ (by kernel_rfl))) fun fr t H => ?_
      refine AG 2 [(44, .bool (x8 == ([67, 65, 67, 72, 69, 68, 73, 82, 46, 84, 65, 71] : List UInt8)))] H fun fr H => ?_
      obtain rfl := Ag hm
      exact at_nil ⟨H.ls, A⟩
     replace H := H.kn 38 hb
     refine AG 6 [(44, .bool false)] H fun fr H => ?_
     obtain rfl := Ag hm
     exact at_nil ⟨H.ls, A⟩
    clear A
    intro t fr h4 hK
    obtain ⟨H, A⟩ := hK
    refine Bn 1 [(9, .bool x7)] 6 H fun fr H => AG 3 [(47, .bool (p2 != 1))] H fun fr H => Aq 3 (fun fr' h' => h4 = h' ∧ Has fr' 68 [(0, .ptr (some (bp0, 0))), (2, Ai p2), (7, vs eS x1), (19, Ai (x1.length : Int)), (20, Ai x2), (50, .bool ((p2 != 1) || (!x7)))]) ?_ ?_
    ·cases hb : (p2 != 1 : Bool) with
     | true =>
      replace H := H.kn 47 hb
      exact AG 3 [(50, .bool true)] H fun fr H => Ap H hb
     | false =>
      replace H := H.kn 47 hb
      exact AG 3 [(50, .bool (!x7))] H fun fr H => Ap H hb
    intro t fr h' hK
    obtain ⟨e, H⟩ := hK
    subst e
    refine BF id (Ak 50 H hm (fun hb hm H => ?_) fun hb hm H => ?_)
    ·refine AH 1 (AP 1 [(6, .bool true)] H fun fr H => AY ?_)
     exact .inr (.inl ⟨_, rfl, Ag hm, H.ls, A⟩)
    exact HG (.inl ⟨rfl, Ag hm, H.ls, A⟩)
   clear ho
   clear A
   intro e fr h5 hQ
   rcases hQ with ⟨rfl, rfl, H, A⟩ | ⟨x4, rfl, rfl, H, A⟩ | hF
   ·show AW _ _ _ _ _ _ _
    refine ED 2 (Bk 2 [(0, .ptr (some (bp0, 0))), (2, Ai p2), (7, vs eS x1), (19, Ai (x1.length : Int)), (20, Ai (IntKind.i64.wrap (x2 + 1)))] H fun fr H => at_nil ?_)
    exact nx hm ⟨_, rfl, H.ls, A⟩
   ·exact nr hm fun e => Or.inr (.inl ⟨_, rfl, e, H.ls, A⟩)
   exact hF.elim
  refine Bh (i := 0) (by kernel_rfl) ?_
  exact nr hm fun e => .inl ⟨rfl, e, H.ls, A⟩
 clear ho
 clear A
 intro e fr h6 hQ
 rcases hQ with ⟨rfl, rfl, H, A⟩ | ⟨x3, rfl, rfl, H, A⟩ | hF
 ·show AW _ _ _ _ _ _ _
  refine AV (Kg 12 17 [(0, []), (1, []), (2, []), (3, []), (4, []), (5, []), (6, []), (7, []), (8, []), (9, []), (10, []), (11, []), (12, []), (13, [11]), (14, []), (15, []), (16, [])] ?_)
  refine AG 3 [(54, .bool (p2 == 3))] H fun fr H => ?_
  rcases Ac hm with ⟨hb, hm⟩ | ⟨hb, hm⟩
  ·replace H := H.kn 54 hb
   refine AG 5 [(59, .bool (decide ((x1.length : Int) > 0)))] H fun fr H => ?_
   obtain ⟨x9, ho, hm⟩ := bind_some hm
   refine Aq 8 (fun fr' h' => Has fr' 68 [(67, .bool x9)] ∧ HH g h' [.obj bp0 (.cells none 2 [.map (some bp0_0)]), .obj bp0_0 (.map 2 (BZ (fun k : List UInt8 => .str k) (fun v : Bool => .bool v) p0.DD))] F) ?_ ?_
   ·rcases Ac ho with ⟨hb, hm⟩ | ⟨hb, hm⟩
    ·replace H := H.kn 59 hb
     refine AG 3 [(62, .ptr (some (bp0, 0)))] H fun fr H => CO 63 (.map (some bp0_0)) h6 [(11, bp0)] (g.Bm) H (fun fr => .of (DU (by kernel_rfl) (A.l1 0 0))) (fun fr H => ?_)
     refine AG 1 [(64, vs eS x1)] H fun fr H => ?_
     have A1 := A.G4 0 (pr := [bp0]) (.cons 0 rfl (by simp [Ck.ids]) .nil)
     obtain ⟨x10, hx, hm⟩ := bind_some hm
     obtain ⟨v1, h8, hr, rfl, A1⟩ := Hi (av := [vs eS x1]) hx A1
     replace A := A.WQ A1
     refine CO 65 (.str x10) h8 [(11, bp0)] (bp0 :: g.Bm) H (fun fr => Steps.call (by kernel_rfl) hr) (fun fr H => ?_)
     refine CO 66 (.bool ((Ew p0.DD x10).getD false)) h8 [(14, bp0_0), (11, bp0)] (g.Bm) H (fun fr => .of (Rq (by kernel_rfl) (HH.TJ (kt := 9) (et := 4) (ek := fun k : List UInt8 => .str k) (ev := fun v : Bool => .bool v) (Rg (by kernel_rfl)) A 1 rfl (t := 115) (by kernel_rfl) (z := false) (by kernel_rfl) x10))) (fun fr H => ?_)
     refine AG 1 [(67, .bool ((Ew p0.DD x10).getD false))] H fun fr H => ?_
     obtain rfl := Ag hm
     exact at_nil ⟨H.ls, A⟩
    replace H := H.kn 59 hb
    refine AG 5 [(63, .tuple []), (64, .tuple [])] H fun fr H => JO [(59, .bool false), (63, .tuple []), (65, .tuple [])] H (fun fr => by kernel_rfl) ?_
    intro fr H
    refine AG 2 [(67, .bool false)] H fun fr H => ?_
    obtain rfl := Ag hm
    exact at_nil ⟨H.ls, A⟩
   clear A
   intro t fr h7 hK
   obtain ⟨H, A⟩ := hK
   refine AP 1 [(6, .bool x9)] H fun fr H => AY ?_
   obtain rfl := Ag hm
   exact ⟨.inl rfl, _, rH H, rfl, A⟩
  replace H := H.kn 54 hb
  refine AG 10 [(59, .bool false), (63, .tuple []), (64, .tuple [])] H fun fr H => JO [(59, .bool false), (63, .tuple []), (65, .tuple [])] H (fun fr => by kernel_rfl) ?_
  intro fr H
  refine AP 3 [(6, .bool false)] H fun fr H => AY ?_
  obtain rfl := Ag hm
  exact ⟨.inl rfl, _, rH H, rfl, A⟩
 ·obtain rfl := Ag hm
  exact ⟨.inl rfl, _, rH H, rfl, A⟩
 exact hF.elim
def CC (p0 : AK) (p1_0 : BA) (p2_0 : BO) : Option (Int) :=
 (Ey p1_0 p0.Name p2_0.c_.Bc).bind fun x1 => Af x1 (some (4 : Int)) (some (0 : Int))
theorem Gz {p0 p1_0 p2_0 bp1 bp1_0 bp1_0_0 bp2 bp2_0 rp2_0_14 rp2_0_15 bp2_0_16 rp2_0_16_0 bp2_0_17 q0} (hm : CC p0 p1_0 p2_0 = some q0) (A : HH g h [.obj bp1 (.cells none 2 [.ptr (some (bp1_0, 0))]), .obj bp1_0 (.cells none 2 [.map (some bp1_0_0)]), .obj bp1_0_0 (.map 2 (BZ (fun k : List UInt8 => .str k) (fun v : Bool => .bool v) p1_0.DD)), .obj bp2 (.cells none 2 [.ptr (some (bp2_0, 0))]), .obj bp2_0 (.cells none 2 [vs AE p2_0.c_.Ah, vs AE p2_0.c_.Aj, vs AI p2_0.c_.Bj, .bool p2_0.c_.G1, .bool p2_0.c_.BE, Ai p2_0.c_.Bc, .bool p2_0.c_.B4, Ai p2_0.c_.Ay.Cf, Ai p2_0.c_.Ay.Bb, Ai p2_0.c_.Ge, Ai p2_0.c_.Bz, Ai p2_0.c_.Name, Ai p2_0.c_.Head, Ai p2_0.c_.BU, AF rp2_0_14 p2_0.AR.length, AF rp2_0_15 p2_0.AU.length, .ptr (some (bp2_0_16, 0)), .ptr (some (bp2_0_17, 0))]), .AL rp2_0_14 136 (AL (eP AB) p2_0.AR), .AL rp2_0_15 136 (AL (eP AB) p2_0.AU), .obj bp2_0_16 (.cells none 2 [AF rp2_0_16_0 p2_0.AX.l_.length, Ai p2_0.AX.BM]), .AL rp2_0_16_0 142 (AL (eP AJ) p2_0.AX.l_), .obj bp2_0_17 (.cells none 2 ([Ai p2_0.Ae.n_, Ai p2_0.Ae.An] ++ (CW 257 (AD.int .i64) p2_0.Ae.Aw ++ [])))] F) (hc : BH (cfg.still 39) av = [.agg (AA p0), .ptr (some (bp1, 0)), .ptr (some (bp2, 0))] := by kernel_rfl) : ∃ v h', BN cfg g h 39 av v h' ∧ v = Ai q0 ∧ HH g h' [.obj bp1 (.cells none 2 [.ptr (some (bp1_0, 0))]), .obj bp1_0 (.cells none 2 [.map (some bp1_0_0)]), .obj bp1_0_0 (.map 2 (BZ (fun k : List UInt8 => .str k) (fun v : Bool => .bool v) p1_0.DD)), .obj bp2 (.cells none 2 [.ptr (some (bp2_0, 0))]), .obj bp2_0 (.cells none 2 [vs AE p2_0.c_.Ah, vs AE p2_0.c_.Aj, vs AI p2_0.c_.Bj, .bool p2_0.c_.G1, .bool p2_0.c_.BE, Ai p2_0.c_.Bc, .bool p2_0.c_.B4, Ai p2_0.c_.Ay.Cf, Ai p2_0.c_.Ay.Bb, Ai p2_0.c_.Ge, Ai p2_0.c_.Bz, Ai p2_0.c_.Name, Ai p2_0.c_.Head, Ai p2_0.c_.BU, AF rp2_0_14 p2_0.AR.length, AF rp2_0_15 p2_0.AU.length, .ptr (some (bp2_0_16, 0)), .ptr (some (bp2_0_17, 0))]), .AL rp2_0_14 136 (AL (eP AB) p2_0.AR), .AL rp2_0_15 136 (AL (eP AB) p2_0.AU), .obj bp2_0_16 (.cells none 2 [AF rp2_0_16_0 p2_0.AX.l_.length, Ai p2_0.AX.BM]), .AL rp2_0_16_0 142 (AL (eP AJ) p2_0.AX.l_), .obj bp2_0_17 (.cells none 2 ([Ai p2_0.Ae.n_, Ai p2_0.Ae.An] ++ (CW 257 (AD.int .i64) p2_0.Ae.Aw ++ [])))] F := by
 refine Dr 18 [.tmp 4] hc ?_
 clear hc
 unfold CC at hm
 refine bg 18 [(0, .agg (AA p0)), (1, .ptr (some (bp1, 0))), (2, .ptr (some (bp2, 0)))] fun fr H => ?_
 refine AH 2 ?_
 obtain ⟨h1, e1, A⟩ := A.pu (.cells none 2 (AA p0))
 refine A7 3 (.ptr (some (h.size, 0))) e1 H fun fr t H => ?_
 refine AP 1 [] H fun fr H => AV (AV (FF 1 13 ?_))
 refine Ek 5 1 0 A H fun fr t H => ?_
 refine AZ 2 [(7, .bool true)] 8 1 0 A H fun fr t H => ?_
 refine AZ 1 [] 10 0 0 A H fun fr t H => ?_
 refine Ek 11 4 0 A H fun fr t H => ?_
 refine AZ 3 [] 15 5 5 A H fun fr t H => ?_
 replace A : HH g h1 [_, _, .obj h.size (.cells none 2 (AA p0)), _, _, _, _, _, _, _, _] F := ((A.front 3 rfl).front 3 rfl)
 obtain ⟨x1, hx, hm⟩ := bind_some hm
 obtain ⟨v1, h2, hr, rfl, A1⟩ := Kl (av := [.ptr (some (bp1_0, 0)), .str p0.Name, Ai p2_0.c_.Bc]) hx (A.cut 2)
 replace A := A.g22 A1
 refine A8 16 hr H fun fr t H => ?_
 refine AP 1 [(17, .bool x1)] H fun fr H => Ak 17 H hm (fun hb hm H => ?_) fun hb hm H => ?_
 ·refine AH 1 (AP 1 [(4, Ai 4)] H fun fr H => AY ?_)
  obtain rfl := Ag hm
  refine ⟨.inl rfl, Ai 4, rH H, ?_⟩
  replace A : HH g h2 [_, _, _, _, _, _, _, _, _, _] F := (HH.H2 ((((((((((A.front 10 rfl).front 10 rfl).front 10 rfl).front 10 rfl).front 10 rfl).front 10 rfl).front 10 rfl).front 8 rfl).front 8 rfl).front 10 rfl) 10)
  exact ⟨rfl, A⟩
 refine Cc 1 id (AP 1 [(4, Ai 0)] H fun fr H => AY ?_)
 obtain rfl := Ag hm
 refine ⟨.inl rfl, Ai 0, rH H, ?_⟩
 replace A : HH g h2 [_, _, _, _, _, _, _, _, _, _] F := (HH.H2 ((((((((((A.front 10 rfl).front 10 rfl).front 10 rfl).front 10 rfl).front 10 rfl).front 10 rfl).front 10 rfl).front 8 rfl).front 8 rfl).front 10 rfl) 10)
 exact ⟨rfl, A⟩
def K4 (p0 : Ar) (p1 : Ar) : Option (Int) :=
 (TB cfg.P 23 [Ai p0.Cf, Ai p0.Bb] [Ai p1.Cf, Ai p1.Bb]).bind fun x1 => Af x1 (some (0 : Int)) (Af ((decide (p0.Cf < p1.Cf)) || ((p0.Cf == p1.Cf) && (decide (p0.Bb < p1.Bb)))) (some (-1 : Int)) (some (1 : Int)))
theorem RB {p0 p1 q0} (hm : K4 p0 p1 = some q0) (A : HH g h [] F) (hc : BH (cfg.still 141) av = [.agg [Ai p0.Cf, Ai p0.Bb], .agg [Ai p1.Cf, Ai p1.Bb]] := by kernel_rfl) : ∃ v h', BN cfg g h 141 av v h' ∧ v = Ai q0 ∧ HH g h' [] F := by
 refine Dr 27 [.tmp 4] hc ?_
 clear hc
 unfold K4 at hm
 refine bg 27 [(0, .agg [Ai p0.Cf, Ai p0.Bb]), (1, .agg [Ai p1.Cf, Ai p1.Bb])] fun fr H => ?_
 refine AH 3 ?_
 obtain ⟨h1, e1, A⟩ := A.pu (.cells none 2 [Ai p0.Cf, Ai p0.Bb])
 refine A7 2 (.ptr (some (h.size, 0))) e1 H fun fr t H => ?_
 obtain ⟨h2, e2, A⟩ := A.pu (.cells none 2 [Ai p1.Cf, Ai p1.Bb])
 refine A7 3 (.ptr (some (h1.size, 0))) e2 H fun fr t H => ?_
 refine AP 1 [] H fun fr H => AV (AH 3 (As 5 _ _ H (fun fr => .of (B5 (by kernel_rfl) (A.GQ 1 rfl (o := 0) (n := 2) ⟨Nat.le_of_ble_eq_true rfl, rfl⟩))) fun fr t H => ?_))
 refine As 6 _ _ H (fun fr => .of (B5 (by kernel_rfl) (A.GQ 0 rfl (o := 0) (n := 2) ⟨Nat.le_of_ble_eq_true rfl, rfl⟩))) fun fr t H => ?_
 obtain ⟨x1, hx, hm⟩ := bind_some hm
 refine As 7 (.bool x1) h2 H (fun fr => .of (WW (by kernel_rfl) hx)) fun fr t H => ?_
 refine BF id (Ak 7 H hm (fun hb hm H => ?_) fun hb hm H => ?_)
 ·refine AH 1 (AP 1 [(4, Ai 0)] H fun fr H => AY ?_)
  obtain rfl := Ag hm
  refine ⟨.inl rfl, Ai 0, rH H, ?_⟩
  replace A := A.d0
  exact ⟨rfl, A⟩
 refine Br id (AV (AH 19 (AZ 1 [] 9 1 0 A H fun fr t H => ?_)))
 refine AZ 1 [] 11 0 0 A H fun fr t H => ?_
 refine AG 2 [(13, .bool (decide (p0.Cf < p1.Cf)))] H fun fr H => Aq 13 (fun fr' h' => h2 = h' ∧ Has fr' 27 [(26, .bool ((decide (p0.Cf < p1.Cf)) || ((p0.Cf == p1.Cf) && (decide (p0.Bb < p1.Bb)))))]) ?_ ?_
 ·cases hb : (decide (p0.Cf < p1.Cf) : Bool) with
  | true =>
   replace H := H.kn 13 hb
   exact AG 13 [(26, .bool true)] H fun fr H => Ap H hb
  | false =>
   replace H := H.kn 13 hb
   refine AZ 1 [] 15 1 0 A H fun fr t H => ?_
   refine AZ 1 [] 17 0 0 A H fun fr t H => ?_
   refine AG 2 [(19, .bool (p0.Cf == p1.Cf))] H fun fr H => Aq 6 (fun fr' h' => h2 = h' ∧ Has fr' 27 [(13, .bool false), (25, .bool ((p0.Cf == p1.Cf) && (decide (p0.Bb < p1.Bb))))]) ?_ ?_
   ·cases hb : (p0.Cf == p1.Cf : Bool) with
    | true =>
     replace H := H.kn 19 hb
     refine AZ 1 [] 21 1 1 A H fun fr t H => ?_
     refine AZ 1 [] 23 0 1 A H fun fr t H => ?_
     exact AG 2 [(25, .bool (decide (p0.Bb < p1.Bb)))] H fun fr H => Ap H hb
    | false =>
     replace H := H.kn 19 hb
     exact AG 6 [(25, .bool false)] H fun fr H => Ap H hb
   intro t fr h' hK
   obtain ⟨e, H⟩ := hK
   subst e
   exact AG 1 [(26, .bool ((p0.Cf == p1.Cf) && (decide (p0.Bb < p1.Bb))))] H fun fr H => Ap H hb
 intro t fr h' hK
 obtain ⟨e, H⟩ := hK
 subst e
 refine BF id (Ak 26 H hm (fun hb hm H => ?_) fun hb hm H => ?_)
 ·refine AH 1 (AP 1 [(4, Ai (-1))] H fun fr H => AY ?_)
  obtain rfl := Ag hm
  refine ⟨.inl rfl, Ai (-1), rH H, ?_⟩
  replace A := A.d0
  exact ⟨rfl, A⟩
 refine Cc 1 id (AP 1 [(4, Ai 1)] H fun fr H => AY ?_)
 obtain rfl := Ag hm
 refine ⟨.inl rfl, Ai 1, rH H, ?_⟩
 replace A := A.d0
 exact ⟨rfl, A⟩
end
end Go.Av.L
