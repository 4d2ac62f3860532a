/-
 Models of functions, and that the abstract run tells them. Written by lift2.py.
-/
import Derived.Test.YthnnciphldbmeaaGreatDoorKCfg
import Derived.Test.YthnnciphldbmeaaGreatDoorK3
namespace Go.Av.L
open Go.Av Go.Lib
set_option maxRecDepth 10000
set_option maxHeartbeats 4000000
set_option linter.unusedVariables false
set_option linter.unusedSimpArgs false
variable {g : Gd} {h : AH} {F : List Ck} {av : List AA}
noncomputable section
def D3 (p0 : Int) (p1 : Bool) (p2 : List Int) : Option ((List Int)) :=
 Aa p1 (Em (Nd 8 (p2.length + ([p0] : List Int).length)) <| some (p2 ++ ([p0] : List Int))) (some p2)
theorem H4 {p0 p1 p2 bp2 rp2_0 u1} (hm : D3 p0 p1 p2 = some u1) (A : HH g h [.obj bp2 (.cells none 2 [AF rp2_0 p2.length]), .AI rp2_0 3 (AI (eI .i64) p2)] F) (hc : BF (cfg.still 265) av = [Ai p0, .bool p1, .ptr (some (bp2, 0))] := by kernel_rfl) : ∃ v h', BL cfg g h 265 av v h' ∧ ∃ (r'1 : Option Nat), v = .tuple [] ∧ HH g h' [.obj bp2 (.cells none 2 [AF r'1 u1.length]), .AI r'1 3 (AI (eI .i64) u1)] F := by
 refine Dr 10 [] hc ?_
 clear hc
 unfold D3 at hm
 refine bg 10 [(0, Ai p0), (1, .bool p1), (2, .ptr (some (bp2, 0)))] fun fr H => ?_
 refine AG 1 (AO 1 [(5, .bool p1)] H fun fr H => Ad 5 H hm (fun hb hm H => ?_) fun hb hm H => ?_)
 ·refine Cy 5 (FK 6 0 0 A H fun fr t H => ?_)
  refine AK 1 [(7, Ai p0)] H fun fr H => ?_
  obtain ⟨h1, e1, A⟩ := A.pL 3 [Ai p0]
  refine BB 8 (AF (some h.size) (([p0] : List Int).length)) e1 H fun fr t H => ?_
  obtain ⟨hb, hm⟩ := BE hm
  obtain ⟨r1, h2, hx, A1⟩ := HH.Ko (encI .i64) (by decide) A 2 (xs := p2) (ys := ([p0] : List Int)) rfl (Cu A 0 rfl (n := ([p0] : List Int).length) (z := 1) rfl (by decide)) rfl rfl hb
  replace A : HH g h2 [.AI (some h.size) 3 ([Ai p0]), _, .AI r1 3 (AI (eI .i64) (p2 ++ ([p0] : List Int)))] F := A1
  replace A := A.k2 1 2
  refine Aq 9 _ _ H (fun fr => .of (Hh (s := Cs rp2_0 p2.length) (by kernel_rfl) hx)) fun fr t H => ?_
  obtain ⟨h3, hx, A1⟩ := A.st 0 rfl (o := 0) (new := [AF r1 ((p2 ++ ([p0] : List Int)).length)]) (ds := [AF r1 ((p2 ++ ([p0] : List Int)).length)]) (Nat.le_of_ble_eq_true rfl) rfl rfl
  replace A : HH g h3 [.obj bp2 (.cells none 2 [AF r1 ((p2 ++ ([p0] : List Int)).length)]), _] F := A1
  refine GK hx H fun fr t H => ?_
  refine at_nil ?_
  obtain rfl := AY hm
  refine ⟨.inr rfl, .tuple [], rH H, ?_⟩
  exact ⟨r1, rfl, A⟩
 refine FL ?_
 obtain rfl := AY hm
 refine ⟨.inr rfl, .tuple [], rH H, ?_⟩
 exact ⟨rp2_0, rfl, A⟩
def E9 (p0 : Ba) (p1 : List UInt8) (s : (List Int) × Int × Int) : Option (((List Int) × Int × Int) ⊕ (((List Int)))) :=
 match s with
 | (x1, x2, x3) => (Fc p0.A7 x2).bind fun x5 => (D3 x3 x5 x1).bind fun x6 => Aa (x3 == (p1.length : Int)) (some (.inr x6)) ((RD p1 x3).bind fun x7 => (T5 256 p0.BP x7).bind fun x8 => (Fc p0.BO (IntKind.i64.wrap ((IntKind.i64.wrap ((IntKind.i64.wrap x2) * p0.An)) + (IntKind.i64.wrap x8)))).bind fun x9 => Aa (x9 == (-1)) (some (.inr x6)) (some (.inl (x6, x9, IntKind.i64.wrap (x3 + 1)))))
def D5 (p0 : Ba) (p1 : List UInt8) (p2_10 : List Int) : Option ((List Int)) :=
 (loop (E9 p0 p1) (p2_10, (0 : Int), (0 : Int))).bind fun x4 => some x4
theorem H0 {p0 p1 p2_10 bp2_10 rp2_10_0 u1} (hm : D5 p0 p1 p2_10 = some u1) (A : HH g h [.obj bp2_10 (.cells none 2 [AF rp2_10_0 p2_10.length]), .AI rp2_10_0 3 (AI (eI .i64) p2_10)] F) (hc : BF (cfg.still 264) av = [.A8 (Cj 256 (AA.int .u8) p0.BP ++ [Ai p0.An, vs (eI .i32) p0.BO, vs eB p0.A7]), .str p1, .func (.func 265) [] [.ptr (some (bp2_10, 0))]] := by kernel_rfl) : ∃ v h', BL cfg g h 264 av v h' ∧ ∃ (r'1 : Option Nat), v = .tuple [] ∧ HH g h' [.obj bp2_10 (.cells none 2 [AF r'1 u1.length]), .AI r'1 3 (AI (eI .i64) u1)] F := by
 refine Dr 49 [] hc ?_
 clear hc
 unfold D5 at hm
 refine bg 49 [(0, .A8 (Cj 256 (AA.int .u8) p0.BP ++ [Ai p0.An, vs (eI .i32) p0.BO, vs eB p0.A7])), (1, .str p1), (2, .func (.func 265) [] [.ptr (some (bp2_10, 0))])] fun fr H => ?_
 refine AG 1 (Bc 1 [(6, .int .i32 0)] 1 H fun fr H => AO 1 [(7, Ai 0)] H fun fr H => AV (id := 0) (by kernel_rfl) ?_)
 obtain ⟨o1, ho, hm⟩ := bind_some hm
 refine Ax (Q' := fun e fr' h' => (∃ x4, e = .ret ∧ x4 = o1 ∧ ∃ r2, Has fr' 49 [] ∧ HH g h' [.obj bp2_10 (.cells none 2 [AF r2 x4.length]), .AI r2 3 (AI (eI .i64) x4)] F) ∨ False) ?_ ?_
 ·refine Bh (by kernel_rfl) (fun (s : (List Int) × Int × Int) fr' h' => ∃ x1 x2 x3, (x1, x2, x3) = s ∧ ∃ r1, Has fr' 49 [(0, .A8 (Cj 256 (AA.int .u8) p0.BP ++ [Ai p0.An, vs (eI .i32) p0.BO, vs eB p0.A7])), (1, .str p1), (2, .func (.func 265) [] [.ptr (some (bp2_10, 0))]), (6, .int .i32 x2), (7, Ai x3)] ∧ HH g h' [.obj bp2_10 (.cells none 2 [AF r1 x1.length]), .AI r1 3 (AI (eI .i64) x1)] F) ho ⟨_, _, _, rfl, rp2_10_0, H.ls, A⟩ ?_
  clear ho hm H A
  intro s q fr h1 hI hm
  obtain ⟨x1, x2, x3, rfl, r1, H, A⟩ := hI
  unfold E9 at hm
  refine AQ (AV (id := 1) (by kernel_rfl) ?_)
  refine AG 10 (Ap 5 [(10, .func (.func 265) [] [.ptr (some (bp2_10, 0))]), (11, Ai x3)] 15 (vs eB p0.A7) h1 H (fun fr => .of (G0 (by kernel_rfl))) fun fr t H => ?_)
  obtain ⟨x5, hx, hm⟩ := bind_some hm
  refine Ap 1 [] 17 (.A8 [.bool x5]) h1 H (fun fr => .of (GC (e := eB) (x := x5) XN (by decide) (by kernel_rfl) hx)) fun fr t H => ?_
  refine Aq 18 (.bool x5) h1 H (fun fr => .of (G0 (by kernel_rfl))) fun fr t H => ?_
  obtain ⟨x6, hx, hm⟩ := bind_some hm
  obtain ⟨v1, h2, hr, r3, rfl, A1⟩ := H4 (av := [Ai x3, .bool x5, .ptr (some (bp2_10, 0))]) hx (A.cut 2)
  replace A := A.g22 A1
  refine Ue hr H fun fr t H => ?_
  refine BJ id (AQ (AG 4 (AO 4 [(23, .bool (x3 == (p1.length : Int)))] H fun fr H => Ad 23 H hm (fun hb hm H => ?_) fun hb hm H => ?_)))
  ·refine AU ?_
   exact nr hm fun e => .inl ⟨_, rfl, e, _, H.ls, A⟩
  refine Bf id (AQ (Ep 5 24 ?_))
  refine Ap 3 [] 27 (vs (eI .i32) p0.BO) h2 H (fun fr => .of (G0 (by kernel_rfl))) fun fr t H => ?_
  refine Ap 5 [(29, Ai (IntKind.i64.wrap x2))] 33 (Ai p0.An) h2 H (fun fr => .of (G0 (by kernel_rfl))) fun fr t H => ?_
  obtain ⟨x7, hx, hm⟩ := bind_some hm
  refine Ap 4 [(34, Ai (IntKind.i64.wrap ((IntKind.i64.wrap x2) * p0.An))), (35, .A8 (Cj 256 (AA.int .u8) p0.BP ++ [Ai p0.An, vs (eI .i32) p0.BO, vs eB p0.A7]))] 38 (Ab x7) h2 H (fun fr => .of (JG (by kernel_rfl) hx)) fun fr t H => ?_
  obtain ⟨x8, hq1, hm⟩ := bind_some hm
  obtain ⟨tl1, hd1⟩ := Uc (AA.int .u8) [Ai p0.An, vs (eI .i32) p0.BO, vs eB p0.A7] hq1
  refine Ap 2 [] 41 (.A8 ([Ab x8] ++ tl1)) h2 H (fun fr => .of (XY (X := p0.BP) (by kernel_rfl) hq1 hd1)) fun fr t H => ?_
  refine Aq 42 (Ab x8) h2 H (fun fr => .of (G0 (by kernel_rfl))) fun fr t H => ?_
  obtain ⟨x9, hx, hm⟩ := bind_some hm
  refine Ap 2 [] 45 (.A8 [.int .i32 x9]) h2 H (fun fr => .of (GC (e := (eI .i32)) (x := x9) (encI .i32) (by decide) (by kernel_rfl) hx)) fun fr t H => ?_
  refine Aq 46 (.int .i32 x9) h2 H (fun fr => .of (G0 (by kernel_rfl))) fun fr t H => ?_
  refine BV 1 [(0, .A8 (Cj 256 (AA.int .u8) p0.BP ++ [Ai p0.An, vs (eI .i32) p0.BO, vs eB p0.A7])), (1, .str p1), (2, .func (.func 265) [] [.ptr (some (bp2_10, 0))]), (6, .int .i32 x9), (7, Ai x3)] H fun fr H => CX 2 id (AO 2 [(48, .bool (x9 == (-1)))] H fun fr H => Ad 48 H hm (fun hb hm H => ?_) fun hb hm H => ?_)
  ·refine AU ?_
   exact nr hm fun e => .inl ⟨_, rfl, e, _, H.ls, A⟩
  refine Fh 3 id (BV 3 [(0, .A8 (Cj 256 (AA.int .u8) p0.BP ++ [Ai p0.An, vs (eI .i32) p0.BO, vs eB p0.A7])), (1, .str p1), (2, .func (.func 265) [] [.ptr (some (bp2_10, 0))]), (6, .int .i32 x9), (7, Ai (IntKind.i64.wrap (x3 + 1)))] H fun fr H => at_nil ?_)
  exact nx hm ⟨_, _, _, rfl, _, H.ls, A⟩
 clear ho
 clear A
 intro e fr h3 hQ
 rcases hQ with ⟨x4, rfl, rfl, r2, H, A⟩ | hF
 ·obtain rfl := AY hm
  exact ⟨.inl rfl, _, rH H, _, rfl, A⟩
 exact hF.elim
def GH (p0 : Ba) (p1 : List UInt8) : Option ((List Int)) :=
 (D5 p0 p1 ([] : List Int)).bind fun x1 => some x1
theorem LH {p0 p1 q0} (hm : GH p0 p1 = some q0) (A : HH g h [] F) (hc : BF (cfg.still 201) av = [.A8 (Cj 256 (AA.int .u8) p0.BP ++ [Ai p0.An, vs (eI .i32) p0.BO, vs eB p0.A7]), .str p1] := by kernel_rfl) : ∃ v h', BL cfg g h 201 av v h' ∧ ∃ (rq0 : Option Nat), v = AF rq0 q0.length ∧ HH g h' [.AI rq0 3 (AI (eI .i64) q0)] F := by
 refine Dr 11 [.tmp 4] hc ?_
 clear hc
 unfold GH at hm
 refine bg 11 [(0, .A8 (Cj 256 (AA.int .u8) p0.BP ++ [Ai p0.An, vs (eI .i32) p0.BO, vs eB p0.A7])), (1, .str p1)] fun fr H => ?_
 refine AG 1 (Bc 1 [] 1 H fun fr H => ?_)
 obtain ⟨h1, e1, A⟩ := A.pu (.cells none 2 [.slice none 0])
 refine BB 5 (.ptr (some (h.size, 0))) e1 H fun fr t H => ?_
 refine CX 4 id ?_
 replace A : HH g h1 [.AI none 3 (AI (eI .i64) ([] : List Int)), .obj h.size (.cells none 2 [AF none (([] : List Int).length)])] F := A.Kk 3
 replace A := A.k2 1 0
 obtain ⟨x1, hx, hm⟩ := bind_some hm
 obtain ⟨v1, h2, hr, r1, rfl, A1⟩ := H0 (av := [.A8 (Cj 256 (AA.int .u8) p0.BP ++ [Ai p0.An, vs (eI .i32) p0.BO, vs eB p0.A7]), .str p1, .func (.func 265) [] [.ptr (some (h.size, 0))]]) hx (A.cut 2)
 replace A := A.g22 A1
 refine Qk 3 [] hr H fun fr t H => ?_
 refine CX 2 id (FK 10 0 0 A H fun fr t H => ?_)
 refine AO 1 [(4, AF r1 x1.length)] H fun fr H => AU ?_
 obtain rfl := AY hm
 refine ⟨.inl rfl, AF r1 x1.length, rH H, ?_⟩
 replace A := A.k1 1
 exact ⟨r1, rfl, A⟩
def Fz (x1 : List UInt8) (v1 : Int) (x5 : List Int) (s : Int) : Option ((Int) ⊕ ((Unit) ⊕ (Bool))) :=
 match s with
 | x6 => Aa (decide (x6 < (x5.length : Int))) ((Fc x5 x6).bind fun x8 => (Aa ((IntKind.i64.wrap (v1 + x8)) == (x1.length : Int)) (some true) ((RD x1 (IntKind.i64.wrap (v1 + x8))).bind fun x10 => some (x10 == 47)) : Option (Bool)).bind fun x9 => Aa x9 (some (.inr (.inr true))) (some (.inl (IntKind.i64.wrap (x6 + 1))))) (some (.inr (.inl ())))
def ES (p0 : Ah) (x1 : List UInt8) (s : Unit) (v1 : Int) : Option ((Unit) ⊕ ((Bool))) :=
 match s with
 | _ => (Jx x1 (some v1) none).bind fun x4 => (GH p0.t_ x4).bind fun x5 => (loop (Fz x1 v1 x5) (0 : Int)).bind fun o1 => (match o1 with | .inl _ => some (.inl ()) | .inr x7 => some (.inr x7))
def E7 (p0 : Ah) (p1 : List UInt8) : Option (Bool) :=
 (Iw p1).bind fun x1 => (En p0 x1).bind fun (x2_10, x2_11) => (DR (ES p0 x1) (.inl ()) x2_10 x2_11).bind fun y1 => (match y1 with | .inl _ => some false | .inr x3 => some x3)
theorem Jl {p0 p1 q0} (hm : E7 p0 p1 = some q0) (A : HH g h [] F) (hc : BF (cfg.still 138) av = [.A8 (AB p0), .str p1] := by kernel_rfl) : ∃ v h', BL cfg g h 138 av v h' ∧ v = .bool q0 ∧ HH g h' [] F := by
 refine Dr 42 [.cell 4 4] hc ?_
 clear hc
 unfold E7 at hm
 refine bg 42 [(0, .A8 (AB p0)), (1, .str p1)] fun fr H => ?_
 refine AG 3 ?_
 obtain ⟨h1, e1, A⟩ := A.pu (.cells none 2 [.A8 (AB p0)])
 refine BB 2 (.ptr (some (h.size, 0))) e1 H fun fr t H => ?_
 obtain ⟨h2, e2, A⟩ := A.pu (.cells none 2 [.str p1])
 refine BB 3 (.ptr (some (h1.size, 0))) e2 H fun fr t H => ?_
 obtain ⟨h3, e3, A⟩ := A.pu (.cells none 2 [.bool false])
 refine BB 4 (.ptr (some (h2.size, 0))) e3 H fun fr t H => ?_
 refine CX 3 id (FK 9 1 0 A H fun fr t H => ?_)
 obtain ⟨x1, hx, hm⟩ := bind_some hm
 obtain ⟨v1, h4, hr, rfl, A1⟩ := OE (av := [.str p1]) hx (A.cut 0)
 replace A : HH g h4 [.obj h2.size (.cells none 2 [.bool false]), .obj h1.size (.cells none 2 [.str p1]), .obj h.size (.cells none 2 [.A8 (AB p0)])] F := A.CY (n := 0) A1
 refine BA 10 hr H fun fr t H => ?_
 obtain ⟨h5, hx, A⟩ := A.s1 0 [.str x1] [_]
 refine GK hx H fun fr t H => ?_
 refine BJ id (AQ (AG 3 (FK 11 2 0 A H fun fr t H => ?_)))
 refine FK 12 1 0 A H fun fr t H => ?_
 obtain ⟨⟨x2_10, x2_11⟩, hx, hm⟩ := bind_some hm
 obtain ⟨v1, h6, hr, bqw2_10, bqw2_11, rfl, A1⟩ := I6 (av := [.A8 (AB p0), .str x1]) hx (A.cut 0)
 replace A := A.YE A1
 refine BA 13 hr H fun fr t H => ?_
 refine BJ id (AV (id := 0) (by kernel_rfl) ?_)
 obtain ⟨y1, ho, hm⟩ := bind_some hm
 refine PO (C := cfg) (x := .tmp 13) (ps := [14]) (f' := 263) (first := []) (cap := [.ptr (some (bqw2_10, 0)), .ptr (some (bqw2_11, 0))]) (Lu := [.obj bqw2_10 (.cells none 2 [.A8 (AB x2_10)]), .obj bqw2_11 (.cells none 2 [.str x2_11])]) (Lc := [.obj h2.size (.cells none 2 [.bool false]), .obj h1.size (.cells none 2 [.str x1]), .obj h.size (.cells none 2 [.A8 (AB p0)])]) (F := F) (ex := fun x => [Ai x]) (Y := ES p0 x1) (PL := fun s Lc => () = s ∧ Lc = [.obj h2.size (.cells none 2 [.bool false]), .obj h1.size (.cells none 2 [.str x1]), .obj h.size (.cells none 2 [.A8 (AB p0)])]) (PR := fun r Lc => (∃ (x3 : Bool), x3 = r ∧ Lc = [.obj h2.size (.cells none 2 [.bool x3]), .obj h1.size (.cells none 2 [.str x1]), .obj h.size (.cells none 2 [.A8 (AB p0)])]) ∨ False) (pe := fun _ => .ret) (s := ()) (y := y1) (PU := fun L => L = [.obj bqw2_10 (.cells none 2 [.A8 (AB x2_10)]), .obj bqw2_11 (.cells none 2 [.str x2_11])]) (by kernel_rfl) H (fun fr => by kernel_rfl) (by kernel_rfl) (fun _ => rfl) (by kernel_rfl) A ⟨rfl, rfl⟩ ?_ ?_ ?_ ?_ ?_
 ·refine MN H (kn := fun v1 => [(2, .ptr (some (h.size, 0))), (3, .ptr (some (h1.size, 0))), (4, .ptr (some (h2.size, 0))), (14, Ai v1)]) (fun v1 fr => by kernel_rfl) ?_
  clear ho hm A H
  intro g h7 F s v1 o Lc fr H hP hm A
  obtain ⟨rfl, rfl⟩ := hP
  unfold ES at hm
  show AW _ _ _ _ _ _ _
  refine Cy 1 (BV 1 [(2, .ptr (some (h.size, 0))), (3, .ptr (some (h1.size, 0))), (4, .ptr (some (h2.size, 0))), (5, Ai v1)] H fun fr H => at_nil ?_)
  refine ⟨rfl, _, A, ?_⟩
  clear A
  intro h8 F A
  show AW _ _ _ _ _ _ _
  refine AV (id := 1) (by kernel_rfl) ?_
  refine AQ (Ep 4 10 ?_)
  refine FK 15 2 0 A H fun fr t H => ?_
  refine Ap 2 [] 18 (.A8 (Cj 256 (AA.int .u8) p0.t_.BP ++ [Ai p0.t_.An, vs (eI .i32) p0.t_.BO, vs eB p0.t_.A7])) h8 H (fun fr => .of (G0 (by kernel_rfl))) fun fr t H => ?_
  refine FK 19 1 0 A H fun fr t H => ?_
  obtain ⟨x4, hx, hm⟩ := bind_some hm
  refine Ap 1 [] 21 (.str x4) h8 H (fun fr => .of (Ib (k := .i64) (k' := .i64) (lo := (some v1)) (hi := none) (by kernel_rfl) hx)) fun fr t H => ?_
  obtain ⟨x5, hx, hm⟩ := bind_some hm
  obtain ⟨v1, h9, hr, rqw3, rfl, A1⟩ := LH (av := [.A8 (Cj 256 (AA.int .u8) p0.t_.BP ++ [Ai p0.t_.An, vs (eI .i32) p0.t_.BO, vs eB p0.t_.A7]), .str x4]) hx (A.cut 0)
  replace A : HH g h9 [.AI rqw3 3 (AI (eI .i64) x5), .obj h2.size (.cells none 2 [.bool false]), .obj h1.size (.cells none 2 [.str x1]), .obj h.size (.cells none 2 [.A8 (AB p0)])] F := A.CY (n := 0) A1
  refine BA 22 hr H fun fr t H => ?_
  refine AO 2 [(23, Ai (x5.length : Int)), (24, Ai 0)] H fun fr H => AV (id := 2) (by kernel_rfl) ?_
  obtain ⟨o1, ho, hm⟩ := bind_some hm
  refine Ax (Q' := fun e fr' h' => (e = .exit 2 ∧ .inl () = o1 ∧ Has fr' 42 [] ∧ HH g h' [.obj h2.size (.cells none 2 [.bool false]), .obj h1.size (.cells none 2 [.str x1]), .obj h.size (.cells none 2 [.A8 (AB p0)])] F) ∨ (∃ x7, e = .ret ∧ .inr x7 = o1 ∧ Has fr' 42 [(4, .ptr (some (h2.size, 0)))] ∧ HH g h' [.obj h2.size (.cells none 2 [.bool x7]), .obj h1.size (.cells none 2 [.str x1]), .obj h.size (.cells none 2 [.A8 (AB p0)])] F) ∨ False) ?_ ?_
  ·refine Bh (by kernel_rfl) (fun (s : Int) fr' h' => ∃ x6, x6 = s ∧ Has fr' 42 [(3, .ptr (some (h1.size, 0))), (4, .ptr (some (h2.size, 0))), (5, Ai v1), (22, AF rqw3 x5.length), (23, Ai (x5.length : Int)), (24, Ai x6)] ∧ HH g h' [.AI rqw3 3 (AI (eI .i64) x5), .obj h2.size (.cells none 2 [.bool false]), .obj h1.size (.cells none 2 [.str x1]), .obj h.size (.cells none 2 [.A8 (AB p0)])] F) ho ⟨_, rfl, H.ls, A⟩ ?_
   clear ho hm H A
   intro s q fr h10 hI hm
   obtain ⟨x6, rfl, H, A⟩ := hI
   unfold Fz at hm
   refine AG 1 (AO 1 [(25, .bool (decide (x6 < (x5.length : Int))))] H fun fr H => AQ (Ad 25 H hm (fun hb hm H => ?_) fun hb hm H => ?_))
   ·refine Bf id (AQ (AV (id := 3) (by kernel_rfl) ?_))
    refine AG 3 ?_
    obtain ⟨x8, hx, hm⟩ := bind_some hm
    obtain ⟨i1, er1, _, hx, hq1⟩ := HH.Kn (encI .i64) (by decide) A 0 (xs := x5) rfl hx
    refine Aq 26 (.ptr (some (i1, x6.toNat * 1))) h10 H (fun fr => .of (Dc (s := Cs rqw3 x5.length) (by kernel_rfl) hx)) fun fr t H => ?_
    refine Aq 27 _ _ H (fun fr => .of (Da (by kernel_rfl) (DD (encI .i64) (HH.row A 0 rfl er1) hq1 (o := 0) rfl))) fun fr t H => ?_
    refine Bc 1 [(7, Ai x8)] 4 H fun fr H => Bc 4 [(8, Ai (IntKind.i64.wrap (v1 + x8)))] 10 H fun fr H => Ag 1 [(31, Ai (IntKind.i64.wrap (v1 + x8)))] 32 2 0 A H fun fr t H => ?_
    refine AK 3 [(35, .bool ((IntKind.i64.wrap (v1 + x8)) == (x1.length : Int)))] H fun fr H => ?_
    obtain ⟨x9, ho, hm⟩ := bind_some hm
    refine A9 5 (fun fr' h' => Has fr' 42 [(3, .ptr (some (h1.size, 0))), (4, .ptr (some (h2.size, 0))), (5, Ai v1), (22, AF rqw3 x5.length), (23, Ai (x5.length : Int)), (24, Ai x6), (40, .bool x9)] ∧ HH g h' [.AI rqw3 3 (AI (eI .i64) x5), .obj h2.size (.cells none 2 [.bool false]), .obj h1.size (.cells none 2 [.str x1]), .obj h.size (.cells none 2 [.A8 (AB p0)])] F) ?_ ?_
    ·rcases AX ho with ⟨hb, hm⟩ | ⟨hb, hm⟩
     ·replace H := H.kn 35 hb
      refine AK 5 [(40, .bool true)] H fun fr H => ?_
      obtain rfl := AY hm
      exact at_nil ⟨H.ls, A⟩
     replace H := H.kn 35 hb
     refine FK 36 2 0 A H fun fr t H => ?_
     obtain ⟨x10, hx, hm⟩ := bind_some hm
     refine Ap 1 [] 38 (Ab x10) h10 H (fun fr => .of (JG (by kernel_rfl) hx)) fun fr t H => ?_
     refine AK 2 [(40, .bool (x10 == 47))] H fun fr H => ?_
     obtain rfl := AY hm
     exact at_nil ⟨H.ls, A⟩
    clear A
    intro t fr h11 hK
    obtain ⟨H, A⟩ := hK
    refine BJ id (Ad 40 H hm (fun hb hm H => ?_) fun hb hm H => ?_)
    ·refine AG 1 ?_
     obtain ⟨h12, hx, A⟩ := A.s1 0 [.bool true] [_]
     refine GK hx H fun fr t H => ?_
     refine BJ id (AU ?_)
     replace A := A.k3 1 2 3
     exact nr hm fun e => Or.inr (.inl ⟨_, rfl, e, H.ls, A⟩)
    refine Fh 2 id (BV 2 [(3, .ptr (some (h1.size, 0))), (4, .ptr (some (h2.size, 0))), (5, Ai v1), (22, AF rqw3 x5.length), (23, Ai (x5.length : Int)), (24, Ai (IntKind.i64.wrap (x6 + 1)))] H fun fr H => at_nil ?_)
    exact nx hm ⟨_, rfl, H.ls, A⟩
   refine BU (i := 2) (by kernel_rfl) ?_
   replace A := A.k3 1 2 3
   exact nr hm fun e => .inl ⟨rfl, e, H.ls, A⟩
  clear ho
  clear A
  intro e fr h13 hQ
  rcases hQ with ⟨rfl, rfl, H, A⟩ | ⟨x7, rfl, rfl, H, A⟩ | hF
  ·have e1 := Option.some.inj hm
   subst e1
   exact ⟨rfl, _, ⟨rfl, rfl⟩, A⟩
  ·have e1 := Option.some.inj hm
   subst e1
   exact ⟨rfl, _, Or.inl ⟨x7, rfl, rfl⟩, A⟩
  exact hF.elim
 ·intro h1 l F1 R hYR B A
  obtain ⟨v1, h2, hr, _, F2, B, A⟩ := Gy (av := [.Lx l, .ptr (some (bqw2_10, 0)), .ptr (some (bqw2_11, 0))]) ho (by kernel_rfl) hYR B A
  exact ⟨v1, h2, F2, _, hr, B, rfl, A⟩
 ·clear ho A
  intro s2 h14 Lc Lu ey hP hU A
  subst ey
  obtain ⟨rfl, rfl⟩ := hP
  subst hU
  replace A : HH g h14 [.obj bqw2_10 (.cells none 2 [.A8 (AB x2_10)]), .obj bqw2_11 (.cells none 2 [.str x2_11]), .obj h2.size (.cells none 2 [.bool false]), .obj h1.size (.cells none 2 [.str x1]), .obj h.size (.cells none 2 [.A8 (AB p0)])] F := A
  show AW _ _ _ _ _ _ _
  refine AG 1 ?_
  obtain ⟨h15, hx, A⟩ := A.s2 0 [.bool false] [_]
  refine Rc (v := .tuple []) (h1 := h15) [(4, .ptr (some (h2.size, 0)))] H (fun fr => by kernel_rfl) (fun fr => .of (OU (by kernel_rfl) rfl hx)) ?_
  intro fr t H
  refine BJ id (AU ?_)
  obtain rfl := AY hm
  refine ⟨.inl rfl, .bool false, EL (.cell (rT H) (Fl (by kernel_rfl) (A.l1 2 0)) .nil), ?_⟩
  replace A := A.d0
  exact ⟨rfl, A⟩
 ·clear ho A
  intro r2 h14 Lc Lu e ey he hP hU A
  subst ey
  subst hU
  rcases hP with ⟨x3, rfl, rfl⟩ | hF
  ·obtain rfl := Mz he
   replace A : HH g h14 [.obj bqw2_10 (.cells none 2 [.A8 (AB x2_10)]), .obj bqw2_11 (.cells none 2 [.str x2_11]), .obj h2.size (.cells none 2 [.bool x3]), .obj h1.size (.cells none 2 [.str x1]), .obj h.size (.cells none 2 [.A8 (AB p0)])] F := A
   obtain rfl := AY hm
   refine ⟨.inl rfl, .bool x3, EL (.cell (rT H) (Fl (by kernel_rfl) (A.l1 2 0)) .nil), ?_⟩
   replace A := A.d0
   exact ⟨rfl, A⟩
  exact hF.elim
 exact fun _ => ⟨.ret, rfl⟩
def HD (p0 : List Ah) (p1 : List UInt8) (s : Int) : Option ((Int) ⊕ ((Unit) ⊕ (Int × Bool))) :=
 match s with
 | x1 => Aa (decide (x1 < (p0.length : Int))) ((Fc p0 x1).bind fun x4 => (E7 x4 p1).bind fun x5 => Aa x5 (some (.inr (.inr (x1, true)))) (some (.inl (IntKind.i64.wrap (x1 + 1))))) (some (.inr (.inl ())))
def Ev (p0 : List Ah) (p1 : List UInt8) : Option (Int × Bool) :=
 (loop (HD p0 p1) (0 : Int)).bind fun o1 => (match o1 with | .inl _ => some ((0 : Int), false) | .inr (x2, x3) => some (x2, x3))
theorem Hu {p0 p1 rp0 q0 q1} (hm : Ev p0 p1 = some (q0, q1)) (A : HH g h [.AI rp0 136 (AI (eP AB) p0)] F) (hc : BF (cfg.still 76) av = [AF rp0 p0.length, .str p1] := by kernel_rfl) : ∃ v h', BL cfg g h 76 av v h' ∧ v = .tuple [Ai q0, .bool q1] ∧ HH g h' [.AI rp0 136 (AI (eP AB) p0)] F := by
 refine Dr 20 [.tmp 4, .tmp 5] hc ?_
 clear hc
 unfold Ev at hm
 refine bg 20 [(0, AF rp0 p0.length), (1, .str p1)] fun fr H => ?_
 refine AG 2 (AO 2 [] H fun fr H => AQ (AG 3 (AO 3 [(8, AF rp0 p0.length), (9, Ai (p0.length : Int)), (10, Ai 0)] H fun fr H => AV (id := 0) (by kernel_rfl) ?_)))
 obtain ⟨o1, ho, hm⟩ := bind_some hm
 refine Ax (Q' := fun e fr' h' => (e = .exit 0 ∧ .inl () = o1 ∧ Has fr' 20 [] ∧ HH g h' [.AI rp0 136 (AI (eP AB) p0)] F) ∨ (∃ x2 x3, e = .ret ∧ .inr (x2, x3) = o1 ∧ Has fr' 20 [(4, Ai x2), (5, .bool x3)] ∧ HH g h' [.AI rp0 136 (AI (eP AB) p0)] F) ∨ False) ?_ ?_
 ·refine Bh (by kernel_rfl) (fun (s : Int) fr' h' => ∃ x1, x1 = s ∧ Has fr' 20 [(1, .str p1), (8, AF rp0 p0.length), (9, Ai (p0.length : Int)), (10, Ai x1)] ∧ HH g h' [.AI rp0 136 (AI (eP AB) p0)] F) ho ⟨_, rfl, H.ls, A⟩ ?_
  clear ho hm H A
  intro s q fr h1 hI hm
  obtain ⟨x1, rfl, H, A⟩ := hI
  unfold HD at hm
  refine AG 1 (AO 1 [(11, .bool (decide (x1 < (p0.length : Int))))] H fun fr H => AQ (Ad 11 H hm (fun hb hm H => ?_) fun hb hm H => ?_))
  ·refine Bf id (AQ (AV (id := 1) (by kernel_rfl) ?_))
   refine AG 5 ?_
   obtain ⟨x4, hx, hm⟩ := bind_some hm
   obtain ⟨i1, er1, _, hx, hq1⟩ := HH.Kn (RL _) (by decide) A 0 (xs := p0) rfl hx
   refine Ap 1 [(12, Ai x1)] 13 (.ptr (some (i1, x1.toNat * 1))) h1 H (fun fr => .of (Dc (s := Cs rp0 p0.length) (by kernel_rfl) hx)) fun fr t H => ?_
   refine Aq 14 _ _ H (fun fr => .of (Da (by kernel_rfl) (DD (RL _) (HH.row A 0 rfl er1) hq1 (o := 0) rfl))) fun fr t H => ?_
   refine Bc 2 [(6, Ai x1), (7, .A8 (AB x4))] 3 H fun fr H => ?_
   obtain ⟨x5, hx, hm⟩ := bind_some hm
   obtain ⟨v1, h2, hr, rfl, A1⟩ := Jl (av := [.A8 (AB x4), .str p1]) hx (A.cut 0)
   replace A := A.EX A1
   refine A0 2 [] 17 hr H fun fr t H => ?_
   refine BJ id (Ad 17 H hm (fun hb hm H => ?_) fun hb hm H => ?_)
   ·refine AG 3 (AO 3 [(4, Ai x1), (5, .bool true)] H fun fr H => AU ?_)
    exact nr hm fun e => Or.inr (.inl ⟨_, _, rfl, e, H.ls, A⟩)
   refine Fh 2 id (BV 2 [(1, .str p1), (8, AF rp0 p0.length), (9, Ai (p0.length : Int)), (10, Ai (IntKind.i64.wrap (x1 + 1)))] H fun fr H => at_nil ?_)
   exact nx hm ⟨_, rfl, H.ls, A⟩
  refine BU (i := 0) (by kernel_rfl) ?_
  exact nr hm fun e => .inl ⟨rfl, e, H.ls, A⟩
 clear ho
 clear A
 intro e fr h3 hQ
 rcases hQ with ⟨rfl, rfl, H, A⟩ | ⟨x2, x3, rfl, rfl, H, A⟩ | hF
 ·show AW _ _ _ _ _ _ _
  refine AG 2 (AO 2 [(4, Ai 0), (5, .bool false)] H fun fr H => AU ?_)
  obtain ⟨rfl, rfl⟩ := Cw hm
  exact ⟨.inl rfl, _, rH H, rfl, A⟩
 ·obtain ⟨rfl, rfl⟩ := Cw hm
  exact ⟨.inl rfl, _, rH H, rfl, A⟩
 exact hF.elim
def LN : Option ((List (List UInt8))) :=
 some ([([46, 97, 114, 99, 104, 45, 105, 100, 115] : List UInt8), ([46, 98, 122, 114] : List UInt8), ([46, 98, 122, 114, 105, 103, 110, 111, 114, 101] : List UInt8), ([46, 98, 122, 114, 116, 97, 103, 115] : List UInt8), ([46, 99, 118, 115, 105, 103, 110, 111, 114, 101] : List UInt8), ([46, 103, 105, 116] : List UInt8), ([46, 103, 105, 116, 97, 116, 116, 114, 105, 98, 117, 116, 101, 115] : List UInt8), ([46, 103, 105, 116, 105, 103, 110, 111, 114, 101] : List UInt8), ([46, 103, 105, 116, 109, 111, 100, 117, 108, 101, 115] : List UInt8), ([46, 104, 103] : List UInt8), ([46, 104, 103, 105, 103, 110, 111, 114, 101] : List UInt8), ([46, 104, 103, 116, 97, 103, 115] : List UInt8), ([46, 115, 118, 110] : List UInt8), ([61, 82, 69, 76, 69, 65, 83, 69, 45, 73, 68] : List UInt8), ([61, 109, 101, 116, 97, 45, 117, 112, 100, 97, 116, 101] : List UInt8), ([61, 117, 112, 100, 97, 116, 101] : List UInt8), ([67, 86, 83] : List UInt8), ([82, 67, 83] : List UInt8), ([83, 67, 67, 83] : List UInt8), ([95, 100, 97, 114, 99, 115] : List UInt8), ([123, 97, 114, 99, 104, 125] : List UInt8)] : List (List UInt8))
theorem RZ {q0} (hm : LN = some q0) (A : HH g h [] F) (hc : BF (cfg.still 203) av = [] := by kernel_rfl) : ∃ v h', BL cfg g h 203 av v h' ∧ ∃ (rq0 : Option Nat), v = AF rq0 q0.length ∧ HH g h' [.AI rq0 9 (AI eS q0)] F := by
 refine Dr 2 [.tmp 0] hc ?_
 clear hc
 unfold LN at hm
 refine bg 2 [] fun fr H => ?_
 refine AG 1 (Bc 1 [] 2 H fun fr H => ?_)
 obtain ⟨h1, e1, A⟩ := A.pL 9 [.str ([46, 97, 114, 99, 104, 45, 105, 100, 115] : List UInt8), .str ([46, 98, 122, 114] : List UInt8), .str ([46, 98, 122, 114, 105, 103, 110, 111, 114, 101] : List UInt8), .str ([46, 98, 122, 114, 116, 97, 103, 115] : List UInt8), .str ([46, 99, 118, 115, 105, 103, 110, 111, 114, 101] : List UInt8), .str ([46, 103, 105, 116] : List UInt8), .str ([46, 103, 105, 116, 97, 116, 116, 114, 105, 98, 117, 116, 101, 115] : List UInt8), .str ([46, 103, 105, 116, 105, 103, 110, 111, 114, 101] : List UInt8), .str ([46, 103, 105, 116, 109, 111, 100, 117, 108, 101, 115] : List UInt8), .str ([46, 104, 103] : List UInt8), .str ([46, 104, 103, 105, 103, 110, 111, 114, 101] : List UInt8), .str ([46, 104, 103, 116, 97, 103, 115] : List UInt8), .str ([46, 115, 118, 110] : List UInt8), .str ([61, 82, 69, 76, 69, 65, 83, 69, 45, 73, 68] : List UInt8), .str ([61, 109, 101, 116, 97, 45, 117, 112, 100, 97, 116, 101] : List UInt8), .str ([61, 117, 112, 100, 97, 116, 101] : List UInt8), .str ([67, 86, 83] : List UInt8), .str ([82, 67, 83] : List UInt8), .str ([83, 67, 67, 83] : List UInt8), .str ([95, 100, 97, 114, 99, 115] : List UInt8), .str ([123, 97, 114, 99, 104, 125] : List UInt8)]
 refine BB 1 (AF (some h.size) (([([46, 97, 114, 99, 104, 45, 105, 100, 115] : List UInt8), ([46, 98, 122, 114] : List UInt8), ([46, 98, 122, 114, 105, 103, 110, 111, 114, 101] : List UInt8), ([46, 98, 122, 114, 116, 97, 103, 115] : List UInt8), ([46, 99, 118, 115, 105, 103, 110, 111, 114, 101] : List UInt8), ([46, 103, 105, 116] : List UInt8), ([46, 103, 105, 116, 97, 116, 116, 114, 105, 98, 117, 116, 101, 115] : List UInt8), ([46, 103, 105, 116, 105, 103, 110, 111, 114, 101] : List UInt8), ([46, 103, 105, 116, 109, 111, 100, 117, 108, 101, 115] : List UInt8), ([46, 104, 103] : List UInt8), ([46, 104, 103, 105, 103, 110, 111, 114, 101] : List UInt8), ([46, 104, 103, 116, 97, 103, 115] : List UInt8), ([46, 115, 118, 110] : List UInt8), ([61, 82, 69, 76, 69, 65, 83, 69, 45, 73, 68] : List UInt8), ([61, 109, 101, 116, 97, 45, 117, 112, 100, 97, 116, 101] : List UInt8), ([61, 117, 112, 100, 97, 116, 101] : List UInt8), ([67, 86, 83] : List UInt8), ([82, 67, 83] : List UInt8), ([83, 67, 67, 83] : List UInt8), ([95, 100, 97, 114, 99, 115] : List UInt8), ([123, 97, 114, 99, 104, 125] : List UInt8)] : List (List UInt8)).length)) e1 H fun fr t H => ?_
 refine AO 1 [(0, AF (some h.size) (([([46, 97, 114, 99, 104, 45, 105, 100, 115] : List UInt8), ([46, 98, 122, 114] : List UInt8), ([46, 98, 122, 114, 105, 103, 110, 111, 114, 101] : List UInt8), ([46, 98, 122, 114, 116, 97, 103, 115] : List UInt8), ([46, 99, 118, 115, 105, 103, 110, 111, 114, 101] : List UInt8), ([46, 103, 105, 116] : List UInt8), ([46, 103, 105, 116, 97, 116, 116, 114, 105, 98, 117, 116, 101, 115] : List UInt8), ([46, 103, 105, 116, 105, 103, 110, 111, 114, 101] : List UInt8), ([46, 103, 105, 116, 109, 111, 100, 117, 108, 101, 115] : List UInt8), ([46, 104, 103] : List UInt8), ([46, 104, 103, 105, 103, 110, 111, 114, 101] : List UInt8), ([46, 104, 103, 116, 97, 103, 115] : List UInt8), ([46, 115, 118, 110] : List UInt8), ([61, 82, 69, 76, 69, 65, 83, 69, 45, 73, 68] : List UInt8), ([61, 109, 101, 116, 97, 45, 117, 112, 100, 97, 116, 101] : List UInt8), ([61, 117, 112, 100, 97, 116, 101] : List UInt8), ([67, 86, 83] : List UInt8), ([82, 67, 83] : List UInt8), ([83, 67, 67, 83] : List UInt8), ([95, 100, 97, 114, 99, 115] : List UInt8), ([123, 97, 114, 99, 104, 125] : List UInt8)] : List (List UInt8)).length))] H fun fr H => AU ?_
 obtain rfl := AY hm
 refine ⟨.inl rfl, AF (some h.size) (([([46, 97, 114, 99, 104, 45, 105, 100, 115] : List UInt8), ([46, 98, 122, 114] : List UInt8), ([46, 98, 122, 114, 105, 103, 110, 111, 114, 101] : List UInt8), ([46, 98, 122, 114, 116, 97, 103, 115] : List UInt8), ([46, 99, 118, 115, 105, 103, 110, 111, 114, 101] : List UInt8), ([46, 103, 105, 116] : List UInt8), ([46, 103, 105, 116, 97, 116, 116, 114, 105, 98, 117, 116, 101, 115] : List UInt8), ([46, 103, 105, 116, 105, 103, 110, 111, 114, 101] : List UInt8), ([46, 103, 105, 116, 109, 111, 100, 117, 108, 101, 115] : List UInt8), ([46, 104, 103] : List UInt8), ([46, 104, 103, 105, 103, 110, 111, 114, 101] : List UInt8), ([46, 104, 103, 116, 97, 103, 115] : List UInt8), ([46, 115, 118, 110] : List UInt8), ([61, 82, 69, 76, 69, 65, 83, 69, 45, 73, 68] : List UInt8), ([61, 109, 101, 116, 97, 45, 117, 112, 100, 97, 116, 101] : List UInt8), ([61, 117, 112, 100, 97, 116, 101] : List UInt8), ([67, 86, 83] : List UInt8), ([82, 67, 83] : List UInt8), ([83, 67, 67, 83] : List UInt8), ([95, 100, 97, 114, 99, 115] : List UInt8), ([123, 97, 114, 99, 104, 125] : List UInt8)] : List (List UInt8)).length), rH H, ?_⟩
 replace A : HH g h1 [.AI (some h.size) 9 (AI eS ([([46, 97, 114, 99, 104, 45, 105, 100, 115] : List UInt8), ([46, 98, 122, 114] : List UInt8), ([46, 98, 122, 114, 105, 103, 110, 111, 114, 101] : List UInt8), ([46, 98, 122, 114, 116, 97, 103, 115] : List UInt8), ([46, 99, 118, 115, 105, 103, 110, 111, 114, 101] : List UInt8), ([46, 103, 105, 116] : List UInt8), ([46, 103, 105, 116, 97, 116, 116, 114, 105, 98, 117, 116, 101, 115] : List UInt8), ([46, 103, 105, 116, 105, 103, 110, 111, 114, 101] : List UInt8), ([46, 103, 105, 116, 109, 111, 100, 117, 108, 101, 115] : List UInt8), ([46, 104, 103] : List UInt8), ([46, 104, 103, 105, 103, 110, 111, 114, 101] : List UInt8), ([46, 104, 103, 116, 97, 103, 115] : List UInt8), ([46, 115, 118, 110] : List UInt8), ([61, 82, 69, 76, 69, 65, 83, 69, 45, 73, 68] : List UInt8), ([61, 109, 101, 116, 97, 45, 117, 112, 100, 97, 116, 101] : List UInt8), ([61, 117, 112, 100, 97, 116, 101] : List UInt8), ([67, 86, 83] : List UInt8), ([82, 67, 83] : List UInt8), ([83, 67, 67, 83] : List UInt8), ([95, 100, 97, 114, 99, 115] : List UInt8), ([123, 97, 114, 99, 104, 125] : List UInt8)] : List (List UInt8)))] F := A
 exact ⟨some h.size, rfl, A⟩
def G9 (p0 : List UInt8) (p1 : List UInt8) : Option (Bool) :=
 (FO p0).bind fun x1 => (Aa x1 ((FO p1).bind fun x3 => some (!x3)) (some false) : Option (Bool)).bind fun x2 => some (x2 || (Op.bytesLess p0 p1))
theorem MG {p0 p1 q0} (hm : G9 p0 p1 = some q0) (A : HH g h [] F) (hc : BF (cfg.still 222) av = [.str p0, .str p1] := by kernel_rfl) : ∃ v h', BL cfg g h 222 av v h' ∧ v = .bool q0 ∧ HH g h' [] F := by
 refine Dr 17 [.tmp 4] hc ?_
 clear hc
 unfold G9 at hm
 refine bg 17 [(0, .str p0), (1, .str p1)] fun fr H => ?_
 refine AG 1 (Bc 1 [] 13 H fun fr H => ?_)
 obtain ⟨x1, hx, hm⟩ := bind_some hm
 obtain ⟨v1, h1, hr, rfl, A1⟩ := IA (av := [.str p0]) hx (A.cut 0)
 replace A := A.EX A1
 refine A0 1 [] 6 hr H fun fr t H => ?_
 refine AK 1 [(7, .bool x1)] H fun fr H => ?_
 obtain ⟨x2, ho, hm⟩ := bind_some hm
 refine A9 4 (fun fr' h' => Has fr' 17 [(0, .str p0), (1, .str p1), (11, .bool x2)] ∧ HH g h' [] F) ?_ ?_
 ·rcases AX ho with ⟨hb, hm⟩ | ⟨hb, hm⟩
  ·replace H := H.kn 7 hb
   obtain ⟨x3, hx, hm⟩ := bind_some hm
   obtain ⟨v1, h3, hr, rfl, A1⟩ := IA (av := [.str p1]) hx (A.cut 0)
   replace A := A.EX A1
   refine A0 1 [] 9 hr H fun fr t H => ?_
   refine AK 2 [(11, .bool (!x3))] H fun fr H => ?_
   obtain rfl := AY hm
   exact at_nil ⟨H.ls, A⟩
  replace H := H.kn 7 hb
  refine AK 4 [(11, .bool false)] H fun fr H => ?_
  obtain rfl := AY hm
  exact at_nil ⟨H.ls, A⟩
 clear A
 intro t fr h2 hK
 obtain ⟨H, A⟩ := hK
 refine AK 1 [(12, .bool x2)] H fun fr H => A9 4 (fun fr' h' => h2 = h' ∧ Has fr' 17 [(16, .bool (x2 || (Op.bytesLess p0 p1)))]) ?_ ?_
 ·cases hb : (x2 : Bool) with
  | true =>
   replace H := H.kn 12 hb
   exact AK 4 [(16, .bool true)] H fun fr H => BH H hb
  | false =>
   replace H := H.kn 12 hb
   exact AK 4 [(16, .bool (Op.bytesLess p0 p1))] H fun fr H => BH H hb
 intro t fr h' hK
 obtain ⟨e, H⟩ := hK
 subst e
 refine AO 1 [(4, .bool (x2 || (Op.bytesLess p0 p1)))] H fun fr H => AU ?_
 obtain rfl := AY hm
 exact ⟨.inl rfl, _, rH H, rfl, A⟩
def ET (p0 : List UInt8) : Option (Bool) :=
 some (!(p0 == p0))
theorem G5 {p0 q0} (hm : ET p0 = some q0) (A : HH g h [] F) (hc : BF (cfg.still 266) av = [.str p0] := by kernel_rfl) : ∃ v h', BL cfg g h 266 av v h' ∧ v = .bool q0 ∧ HH g h' [] F := by
 refine Dr 6 [.tmp 2] hc ?_
 clear hc
 unfold ET at hm
 refine bg 6 [(0, .str p0)] fun fr H => ?_
 refine AG 1 (Bc 1 [] 4 H fun fr H => AO 4 [(2, .bool (!(p0 == p0)))] H fun fr H => AU ?_)
 obtain rfl := AY hm
 exact ⟨.inl rfl, _, rH H, rfl, A⟩
def DG (p0 : List (List UInt8)) (p1 : List UInt8) (s : Int × Int) : Option ((Int × Int) ⊕ ((Int))) :=
 match s with
 | (x1, x2) => Aa (decide (x1 < x2)) ((Fc p0 (IntKind.i64.wrap (B3 .u64 (IntKind.u64.wrap (IntKind.i64.wrap (x1 + x2))) (1 : Int)))).bind fun x4 => (G9 x4 p1).bind fun x5 => Aa x5 (some (.inl (IntKind.i64.wrap ((IntKind.i64.wrap (B3 .u64 (IntKind.u64.wrap (IntKind.i64.wrap (x1 + x2))) (1 : Int))) + 1), x2))) (some (.inl (x1, IntKind.i64.wrap (B3 .u64 (IntKind.u64.wrap (IntKind.i64.wrap (x1 + x2))) (1 : Int)))))) (some (.inr x1))
def CU (p0 : List (List UInt8)) (p1 : List UInt8) : Option (Int × Bool) :=
 (loop (DG p0 p1) ((0 : Int), (p0.length : Int))).bind fun x3 => (Aa (decide (x3 < (p0.length : Int))) ((Fc p0 x3).bind fun x7 => (Aa (x7 == p1) (some true) ((Fc p0 x3).bind fun x9 => (ET x9).bind fun x10 => (Aa x10 ((ET p1).bind fun x12 => some x12) (some false) : Option (Bool)).bind fun x11 => some x11) : Option (Bool)).bind fun x8 => some x8) (some false) : Option (Bool)).bind fun x6 => some (x3, x6)
theorem Fg {p0 p1 rp0 q0 q1} (hm : CU p0 p1 = some (q0, q1)) (A : HH g h [.AI rp0 9 (AI eS p0)] F) (hc : BF (cfg.still 202) av = [AF rp0 p0.length, .str p1] := by kernel_rfl) : ∃ v h', BL cfg g h 202 av v h' ∧ v = .tuple [Ai q0, .bool q1] ∧ HH g h' [.AI rp0 9 (AI eS p0)] F := by
 refine Dr 54 [.tmp 4, .tmp 5] hc ?_
 clear hc
 unfold CU at hm
 refine bg 54 [(0, AF rp0 p0.length), (1, .str p1)] fun fr H => ?_
 refine AG 2 (Bc 2 [] 3 H fun fr H => Bc 3 [(6, Ai (p0.length : Int))] 3 H fun fr H => AO 3 [(7, Ai 0), (8, Ai (p0.length : Int))] H fun fr H => AQ (AV (id := 0) (by kernel_rfl) ?_))
 obtain ⟨o1, ho, hm⟩ := bind_some hm
 refine Ax (Q' := fun e fr' h' => (∃ x3, e = .exit 0 ∧ x3 = o1 ∧ Has fr' 54 [(0, AF rp0 p0.length), (1, .str p1), (6, Ai (p0.length : Int)), (7, Ai x3)] ∧ HH g h' [.AI rp0 9 (AI eS p0)] F) ∨ False) ?_ ?_
 ·refine Bh (by kernel_rfl) (fun (s : Int × Int) fr' h' => ∃ x1 x2, (x1, x2) = s ∧ Has fr' 54 [(0, AF rp0 p0.length), (1, .str p1), (6, Ai (p0.length : Int)), (7, Ai x1), (8, Ai x2)] ∧ HH g h' [.AI rp0 9 (AI eS p0)] F) ho ⟨_, _, rfl, H.ls, A⟩ ?_
  clear ho hm H A
  intro s q fr h1 hI hm
  obtain ⟨x1, x2, rfl, H, A⟩ := hI
  unfold DG at hm
  refine AQ (AG 3 (AO 3 [(15, .bool (decide (x1 < x2)))] H fun fr H => Ad 15 H hm (fun hb hm H => ?_) fun hb hm H => ?_))
  ·refine Bf id (AV (id := 1) (by kernel_rfl) ?_)
   refine AG 7 (Bc 7 [(9, Ai (IntKind.i64.wrap (B3 .u64 (IntKind.u64.wrap (IntKind.i64.wrap (x1 + x2))) (1 : Int))))] 6 H fun fr H => ?_)
   obtain ⟨x4, hx, hm⟩ := bind_some hm
   obtain ⟨i1, er1, _, hx, hq1⟩ := HH.Kn encS (by decide) A 0 (xs := p0) rfl hx
   refine Ap 2 [] 24 (.ptr (some (i1, (IntKind.i64.wrap (B3 .u64 (IntKind.u64.wrap (IntKind.i64.wrap (x1 + x2))) (1 : Int))).toNat * 1))) h1 H (fun fr => .of (Dc (s := Cs rp0 p0.length) (by kernel_rfl) hx)) fun fr t H => ?_
   refine Aq 25 _ _ H (fun fr => .of (Da (by kernel_rfl) (DD encS (HH.row A 0 rfl er1) hq1 (o := 0) rfl))) fun fr t H => ?_
   obtain ⟨x5, hx, hm⟩ := bind_some hm
   obtain ⟨v1, h2, hr, rfl, A1⟩ := MG (av := [.str x4, .str p1]) hx (A.cut 0)
   replace A := A.EX A1
   refine A0 1 [] 27 hr H fun fr t H => ?_
   refine BJ id (Ad 27 H hm (fun hb hm H => ?_) fun hb hm H => ?_)
   ·refine Cy 3 (BV 3 [(0, AF rp0 p0.length), (1, .str p1), (6, Ai (p0.length : Int)), (7, Ai (IntKind.i64.wrap ((IntKind.i64.wrap (B3 .u64 (IntKind.u64.wrap (IntKind.i64.wrap (x1 + x2))) (1 : Int))) + 1))), (8, Ai x2)] H fun fr H => at_nil ?_)
    exact nx hm ⟨_, _, rfl, H.ls, A⟩
   refine Cy 2 (BV 2 [(0, AF rp0 p0.length), (1, .str p1), (6, Ai (p0.length : Int)), (7, Ai x1), (8, Ai (IntKind.i64.wrap (B3 .u64 (IntKind.u64.wrap (IntKind.i64.wrap (x1 + x2))) (1 : Int))))] H fun fr H => at_nil ?_)
   exact nx hm ⟨_, _, rfl, H.ls, A⟩
  refine BU (i := 0) (by kernel_rfl) ?_
  exact nr hm fun e => .inl ⟨_, rfl, e, H.ls, A⟩
 clear ho
 clear A
 intro e fr h3 hQ
 rcases hQ with ⟨x3, rfl, rfl, H, A⟩ | hF
 ·show AW _ _ _ _ _ _ _
  refine AG 25 (AK 5 [(31, Ai x3), (35, .bool (decide (x3 < (p0.length : Int))))] H fun fr H => ?_)
  obtain ⟨x6, ho, hm⟩ := bind_some hm
  refine A9 18 (fun fr' h' => Has fr' 54 [(31, Ai x3), (53, .bool x6)] ∧ HH g h' [.AI rp0 9 (AI eS p0)] F) ?_ ?_
  ·rcases AX ho with ⟨hb, hm⟩ | ⟨hb, hm⟩
   ·replace H := H.kn 35 hb
    obtain ⟨x7, hx, hm⟩ := bind_some hm
    obtain ⟨i2, er2, _, hx, hq2⟩ := HH.Kn encS (by decide) A 0 (xs := p0) rfl hx
    refine Ap 2 [] 38 (.ptr (some (i2, x3.toNat * 1))) h3 H (fun fr => .of (Dc (s := Cs rp0 p0.length) (by kernel_rfl) hx)) fun fr t H => ?_
    refine Aq 39 _ _ H (fun fr => .of (Da (by kernel_rfl) (DD encS (HH.row A 0 rfl er2) hq2 (o := 0) rfl))) fun fr t H => ?_
    refine AK 3 [(42, .bool (x7 == p1))] H fun fr H => ?_
    obtain ⟨x8, ho, hm⟩ := bind_some hm
    refine A9 10 (fun fr' h' => Has fr' 54 [(31, Ai x3), (35, .bool true), (52, .bool x8)] ∧ HH g h' [.AI rp0 9 (AI eS p0)] F) ?_ ?_
    ·rcases AX ho with ⟨hb, hm⟩ | ⟨hb, hm⟩
     ·replace H := H.kn 42 hb
      refine AK 10 [(52, .bool true)] H fun fr H => ?_
      obtain rfl := AY hm
      exact at_nil ⟨H.ls, A⟩
     replace H := H.kn 42 hb
     obtain ⟨x9, hx, hm⟩ := bind_some hm
     obtain ⟨i3, er3, _, hx, hq3⟩ := HH.Kn encS (by decide) A 0 (xs := p0) rfl hx
     refine Ap 2 [] 45 (.ptr (some (i3, x3.toNat * 1))) h3 H (fun fr => .of (Dc (s := Cs rp0 p0.length) (by kernel_rfl) hx)) fun fr t H => ?_
     refine Aq 46 _ _ H (fun fr => .of (Da (by kernel_rfl) (DD encS (HH.row A 0 rfl er3) hq3 (o := 0) rfl))) fun fr t H => ?_
     obtain ⟨x10, hx, hm⟩ := bind_some hm
     obtain ⟨v1, h6, hr, rfl, A1⟩ := G5 (av := [.str x9]) hx (A.cut 0)
     replace A := A.EX A1
     refine BA 47 hr H fun fr t H => ?_
     refine AK 1 [(48, .bool x10)] H fun fr H => ?_
     obtain ⟨x11, ho, hm⟩ := bind_some hm
     refine A9 3 (fun fr' h' => Has fr' 54 [(31, Ai x3), (35, .bool true), (42, .bool false), (51, .bool x11)] ∧ HH g h' [.AI rp0 9 (AI eS p0)] F) ?_ ?_
     ·rcases AX ho with ⟨hb, hm⟩ | ⟨hb, hm⟩
      ·replace H := H.kn 48 hb
       obtain ⟨x12, hx, hm⟩ := bind_some hm
       obtain ⟨v1, h8, hr, rfl, A1⟩ := G5 (av := [.str p1]) hx (A.cut 0)
       replace A := A.EX A1
       refine A0 1 [] 50 hr H fun fr t H => ?_
       refine AK 1 [(51, .bool x12)] H fun fr H => ?_
       obtain rfl := AY hm
       exact at_nil ⟨H.ls, A⟩
      replace H := H.kn 48 hb
      refine AK 3 [(51, .bool false)] H fun fr H => ?_
      obtain rfl := AY hm
      exact at_nil ⟨H.ls, A⟩
     clear A
     intro t fr h7 hK
     obtain ⟨H, A⟩ := hK
     refine AK 1 [(52, .bool x11)] H fun fr H => ?_
     obtain rfl := AY hm
     exact at_nil ⟨H.ls, A⟩
    clear A
    intro t fr h5 hK
    obtain ⟨H, A⟩ := hK
    refine AK 1 [(53, .bool x8)] H fun fr H => ?_
    obtain rfl := AY hm
    exact at_nil ⟨H.ls, A⟩
   replace H := H.kn 35 hb
   refine AK 18 [(53, .bool false)] H fun fr H => ?_
   obtain rfl := AY hm
   exact at_nil ⟨H.ls, A⟩
  clear A
  intro t fr h4 hK
  obtain ⟨H, A⟩ := hK
  refine AO 2 [(4, Ai x3), (5, .bool x6)] H fun fr H => AU ?_
  obtain ⟨rfl, rfl⟩ := Cw hm
  exact ⟨.inl rfl, _, rH H, rfl, A⟩
 exact hF.elim
def LW (p0 : List UInt8) : Option (Bool) :=
 (LN).bind fun x1 => (CU x1 p0).bind fun (x2, x3) => some x3
theorem Qj {p0 q0} (hm : LW p0 = some q0) (A : HH g h [] F) (hc : BF (cfg.still 139) av = [.str p0] := by kernel_rfl) : ∃ v h', BL cfg g h 139 av v h' ∧ v = .bool q0 ∧ HH g h' [] F := by
 refine Dr 12 [.tmp 2] hc ?_
 clear hc
 unfold LW at hm
 refine bg 12 [(0, .str p0)] fun fr H => ?_
 refine AG 1 (Bc 1 [] 8 H fun fr H => ?_)
 obtain ⟨x1, hx, hm⟩ := bind_some hm
 obtain ⟨v1, h1, hr, rqw1, rfl, A1⟩ := RZ (av := []) hx (A.cut 0)
 replace A := A.YL A1
 refine BA 6 hr H fun fr t H => ?_
 obtain ⟨⟨x2, x3⟩, hx, hm⟩ := bind_some hm
 obtain ⟨v1, h2, hr, rfl, A1⟩ := Fg (av := [AF rqw1 x1.length, .str p0]) hx (A.cut 1)
 replace A := A.g11 A1
 refine A0 1 [] 8 hr H fun fr t H => ?_
 refine Bc 5 [(4, .bool x3)] 2 H fun fr H => AO 2 [(2, .bool x3)] H fun fr H => AU ?_
 obtain rfl := AY hm
 refine ⟨.inl rfl, .bool x3, rH H, ?_⟩
 replace A := A.d0
 exact ⟨rfl, A⟩
def Kq (x1 : List (List UInt8)) (s : Int) : Option ((Int) ⊕ ((Unit) ⊕ ((List UInt8) × Bool))) :=
 match s with
 | x2 => Aa (decide (x2 < (x1.length : Int))) ((Fc x1 x2).bind fun x5 => (LW x5).bind fun x6 => Aa x6 (some (.inr (.inr (x5, true)))) (some (.inl (IntKind.i64.wrap (x2 + 1))))) (some (.inr (.inl ())))
def LI (p0 : List UInt8) : Option ((List UInt8) × Bool) :=
 (EH p0).bind fun x1 => (loop (Kq x1) (0 : Int)).bind fun o1 => (match o1 with | .inl _ => some (([] : List UInt8), false) | .inr (x3, x4) => some (x3, x4))
theorem Q9 {p0 q0 q1} (hm : LI p0 = some (q0, q1)) (A : HH g h [] F) (hc : BF (cfg.still 77) av = [.str p0] := by kernel_rfl) : ∃ v h', BL cfg g h 77 av v h' ∧ v = .tuple [.str q0, .bool q1] ∧ HH g h' [] F := by
 refine Dr 17 [.tmp 2, .tmp 3] hc ?_
 clear hc
 unfold LI at hm
 refine bg 17 [(0, .str p0)] fun fr H => ?_
 refine AG 2 (AO 2 [] H fun fr H => AQ (AG 4 ?_))
 obtain ⟨x1, hx, hm⟩ := bind_some hm
 obtain ⟨v1, h1, hr, rfl, A1⟩ := G2 (av := [.str p0]) hx (A.cut 0)
 replace A := A.EX A1
 refine A0 1 [] 7 hr H fun fr t H => ?_
 refine AO 2 [(8, Ai (x1.length : Int)), (9, Ai 0)] H fun fr H => AV (id := 0) (by kernel_rfl) ?_
 obtain ⟨o1, ho, hm⟩ := bind_some hm
 refine Ax (Q' := fun e fr' h' => (e = .exit 0 ∧ .inl () = o1 ∧ Has fr' 17 [] ∧ HH g h' [] F) ∨ (∃ x3 x4, e = .ret ∧ .inr (x3, x4) = o1 ∧ Has fr' 17 [(2, .str x3), (3, .bool x4)] ∧ HH g h' [] F) ∨ False) ?_ ?_
 ·refine Bh (by kernel_rfl) (fun (s : Int) fr' h' => ∃ x2, x2 = s ∧ Has fr' 17 [(7, vs eS x1), (8, Ai (x1.length : Int)), (9, Ai x2)] ∧ HH g h' [] F) ho ⟨_, rfl, H.ls, A⟩ ?_
  clear ho hm H A
  intro s q fr h2 hI hm
  obtain ⟨x2, rfl, H, A⟩ := hI
  unfold Kq at hm
  refine AG 1 (AO 1 [(10, .bool (decide (x2 < (x1.length : Int))))] H fun fr H => AQ (Ad 10 H hm (fun hb hm H => ?_) fun hb hm H => ?_))
  ·refine Bf id (AQ (AV (id := 1) (by kernel_rfl) ?_))
   refine AG 3 ?_
   obtain ⟨x5, hx, hm⟩ := bind_some hm
   refine Aq 11 (.A8 [.str x5]) h2 H (fun fr => .of (GC (e := eS) (x := x5) encS (by decide) (by kernel_rfl) hx)) fun fr t H => ?_
   refine Aq 12 (.str x5) h2 H (fun fr => .of (G0 (by kernel_rfl))) fun fr t H => ?_
   refine Bc 1 [(5, .str x5)] 2 H fun fr H => ?_
   obtain ⟨x6, hx, hm⟩ := bind_some hm
   obtain ⟨v1, h3, hr, rfl, A1⟩ := Qj (av := [.str x5]) hx (A.cut 0)
   replace A := A.EX A1
   refine A0 1 [] 14 hr H fun fr t H => ?_
   refine BJ id (Ad 14 H hm (fun hb hm H => ?_) fun hb hm H => ?_)
   ·refine AG 3 (AO 3 [(2, .str x5), (3, .bool true)] H fun fr H => AU ?_)
    exact nr hm fun e => Or.inr (.inl ⟨_, _, rfl, e, H.ls, A⟩)
   refine Fh 2 id (BV 2 [(7, vs eS x1), (8, Ai (x1.length : Int)), (9, Ai (IntKind.i64.wrap (x2 + 1)))] H fun fr H => at_nil ?_)
   exact nx hm ⟨_, rfl, H.ls, A⟩
  refine BU (i := 0) (by kernel_rfl) ?_
  exact nr hm fun e => .inl ⟨rfl, e, H.ls, A⟩
 clear ho
 clear A
 intro e fr h4 hQ
 rcases hQ with ⟨rfl, rfl, H, A⟩ | ⟨x3, x4, rfl, rfl, H, A⟩ | hF
 ·show AW _ _ _ _ _ _ _
  refine AG 2 (AO 2 [(2, .str ([] : List UInt8)), (3, .bool false)] H fun fr H => AU ?_)
  obtain ⟨rfl, rfl⟩ := Cw hm
  exact ⟨.inl rfl, _, rH H, rfl, A⟩
 ·obtain ⟨rfl, rfl⟩ := Cw hm
  exact ⟨.inl rfl, _, rH H, rfl, A⟩
 exact hF.elim
def FC (p0 : List UInt8) (p1 : List UInt8) : Option (Bool) :=
 (Aa (decide ((p0.length : Int) ≥ (p1.length : Int))) ((Jx p0 (some (IntKind.i64.wrap ((p0.length : Int) - (p1.length : Int)))) none).bind fun x2 => some (x2 == p1)) (some false) : Option (Bool)).bind fun x1 => some x1
theorem Jh {p0 p1 q0} (hm : FC p0 p1 = some q0) (A : HH g h [] F) (hc : BF (cfg.still 204) av = [.str p0, .str p1] := by kernel_rfl) : ∃ v h', BL cfg g h 204 av v h' ∧ v = .bool q0 ∧ HH g h' [] F := by
 refine Dr 21 [.tmp 4] hc ?_
 clear hc
 unfold FC at hm
 refine bg 21 [(0, .str p0), (1, .str p1)] fun fr H => ?_
 refine AG 1 (Bc 1 [] 17 H fun fr H => AK 6 [(10, .bool (decide ((p0.length : Int) ≥ (p1.length : Int))))] H fun fr H => ?_)
 obtain ⟨x1, ho, hm⟩ := bind_some hm
 refine A9 10 (fun fr' h' => Has fr' 21 [(20, .bool x1)] ∧ HH g h' [] F) ?_ ?_
 ·rcases AX ho with ⟨hb, hm⟩ | ⟨hb, hm⟩
  ·replace H := H.kn 10 hb
   obtain ⟨x2, hx, hm⟩ := bind_some hm
   refine Ap 6 [] 17 (.str x2) h H (fun fr => .of (Ib (k := .i64) (k' := .i64) (lo := (some (IntKind.i64.wrap ((p0.length : Int) - (p1.length : Int))))) (hi := none) (by kernel_rfl) hx)) fun fr t H => ?_
   refine AK 3 [(20, .bool (x2 == p1))] H fun fr H => ?_
   obtain rfl := AY hm
   exact at_nil ⟨H.ls, A⟩
  replace H := H.kn 10 hb
  refine AK 10 [(20, .bool false)] H fun fr H => ?_
  obtain rfl := AY hm
  exact at_nil ⟨H.ls, A⟩
 clear A
 intro t fr h1 hK
 obtain ⟨H, A⟩ := hK
 refine AO 1 [(4, .bool x1)] H fun fr H => AU ?_
 obtain rfl := AY hm
 exact ⟨.inl rfl, _, rH H, rfl, A⟩
def Eu (p0 : List UInt8) (p1 : List UInt8) : Option (Bool) :=
 (FC p0 p1).bind fun x1 => some x1
theorem Ho {p0 p1 q0} (hm : Eu p0 p1 = some q0) (A : HH g h [] F) (hc : BF (cfg.still 140) av = [.str p0, .str p1] := by kernel_rfl) : ∃ v h', BL cfg g h 140 av v h' ∧ v = .bool q0 ∧ HH g h' [] F := by
 refine Dr 8 [.tmp 4] hc ?_
 clear hc
 unfold Eu at hm
 refine bg 8 [(0, .str p0), (1, .str p1)] fun fr H => ?_
 refine AG 1 (Bc 1 [] 4 H fun fr H => ?_)
 obtain ⟨x1, hx, hm⟩ := bind_some hm
 obtain ⟨v1, h1, hr, rfl, A1⟩ := Jh (av := [.str p0, .str p1]) hx (A.cut 0)
 replace A := A.EX A1
 refine A0 2 [] 7 hr H fun fr t H => ?_
 refine AO 1 [(4, .bool x1)] H fun fr H => AU ?_
 obtain rfl := AY hm
 exact ⟨.inl rfl, _, rH H, rfl, A⟩
def KN (p0 : List UInt8) : Option (Bool) :=
 (F6 p0).bind fun x1 => (Ch x1 ([46, 35] : List UInt8)).bind fun x2 => (Aa x2 (some true) ((Eu x1 ([126] : List UInt8)).bind fun x4 => some x4) : Option (Bool)).bind fun x3 => Aa x3 (some true) ((Aa (decide ((x1.length : Int) > 1)) ((Ch x1 ([35] : List UInt8)).bind fun x6 => some x6) (some false) : Option (Bool)).bind fun x5 => (Aa x5 ((Eu x1 ([35] : List UInt8)).bind fun x8 => some x8) (some false) : Option (Bool)).bind fun x7 => some x7)
theorem Pf {p0 q0} (hm : KN p0 = some q0) (A : HH g h [] F) (hc : BF (cfg.still 78) av = [.str p0] := by kernel_rfl) : ∃ v h', BL cfg g h 78 av v h' ∧ v = .bool q0 ∧ HH g h' [] F := by
 refine Dr 23 [.tmp 2] hc ?_
 clear hc
 unfold KN at hm
 refine bg 23 [(0, .str p0)] fun fr H => ?_
 refine AG 1 (Bc 1 [] 3 H fun fr H => ?_)
 obtain ⟨x1, hx, hm⟩ := bind_some hm
 obtain ⟨v1, h1, hr, rfl, A1⟩ := MA (av := [.str p0]) hx (A.cut 0)
 replace A := A.EX A1
 refine A0 1 [] 5 hr H fun fr t H => ?_
 refine AO 1 [(3, .str x1)] H fun fr H => AQ (AG 6 ?_)
 obtain ⟨x2, hx, hm⟩ := bind_some hm
 obtain ⟨v1, h2, hr, rfl, A1⟩ := Ft (av := [.str x1, .str ([46, 35] : List UInt8)]) hx (A.cut 0)
 replace A := A.EX A1
 refine A0 1 [] 7 hr H fun fr t H => ?_
 refine AK 1 [(8, .bool x2)] H fun fr H => ?_
 obtain ⟨x3, ho, hm⟩ := bind_some hm
 refine A9 3 (fun fr' h' => Has fr' 23 [(3, .str x1), (11, .bool x3)] ∧ HH g h' [] F) ?_ ?_
 ·rcases AX ho with ⟨hb, hm⟩ | ⟨hb, hm⟩
  ·replace H := H.kn 8 hb
   refine AK 3 [(11, .bool true)] H fun fr H => ?_
   obtain rfl := AY hm
   exact at_nil ⟨H.ls, A⟩
  replace H := H.kn 8 hb
  obtain ⟨x4, hx, hm⟩ := bind_some hm
  obtain ⟨v1, h4, hr, rfl, A1⟩ := Ho (av := [.str x1, .str ([126] : List UInt8)]) hx (A.cut 0)
  replace A := A.EX A1
  refine A0 1 [] 10 hr H fun fr t H => ?_
  refine AK 1 [(11, .bool x4)] H fun fr H => ?_
  obtain rfl := AY hm
  exact at_nil ⟨H.ls, A⟩
 clear A
 intro t fr h3 hK
 obtain ⟨H, A⟩ := hK
 refine BJ id (Ad 11 H hm (fun hb hm H => ?_) fun hb hm H => ?_)
 ·refine AG 1 (AO 1 [(2, .bool true)] H fun fr H => AU ?_)
  obtain rfl := AY hm
  exact ⟨.inl rfl, _, rH H, rfl, A⟩
 refine Ce 12 id (AK 4 [(15, .bool (decide ((x1.length : Int) > 1)))] H fun fr H => ?_)
 obtain ⟨x5, ho, hm⟩ := bind_some hm
 refine A9 3 (fun fr' h' => Has fr' 23 [(3, .str x1), (18, .bool x5)] ∧ HH g h' [] F) ?_ ?_
 ·rcases AX ho with ⟨hb, hm⟩ | ⟨hb, hm⟩
  ·replace H := H.kn 15 hb
   obtain ⟨x6, hx, hm⟩ := bind_some hm
   obtain ⟨v1, h6, hr, rfl, A1⟩ := Ft (av := [.str x1, .str ([35] : List UInt8)]) hx (A.cut 0)
   replace A := A.EX A1
   refine A0 1 [] 17 hr H fun fr t H => ?_
   refine AK 1 [(18, .bool x6)] H fun fr H => ?_
   obtain rfl := AY hm
   exact at_nil ⟨H.ls, A⟩
  replace H := H.kn 15 hb
  refine AK 3 [(18, .bool false)] H fun fr H => ?_
  obtain rfl := AY hm
  exact at_nil ⟨H.ls, A⟩
 clear A
 intro t fr h5 hK
 obtain ⟨H, A⟩ := hK
 refine AK 1 [(19, .bool x5)] H fun fr H => ?_
 obtain ⟨x7, ho, hm⟩ := bind_some hm
 refine A9 3 (fun fr' h' => Has fr' 23 [(22, .bool x7)] ∧ HH g h' [] F) ?_ ?_
 ·rcases AX ho with ⟨hb, hm⟩ | ⟨hb, hm⟩
  ·replace H := H.kn 19 hb
   obtain ⟨x8, hx, hm⟩ := bind_some hm
   obtain ⟨v1, h8, hr, rfl, A1⟩ := Ho (av := [.str x1, .str ([35] : List UInt8)]) hx (A.cut 0)
   replace A := A.EX A1
   refine A0 1 [] 21 hr H fun fr t H => ?_
   refine AK 1 [(22, .bool x8)] H fun fr H => ?_
   obtain rfl := AY hm
   exact at_nil ⟨H.ls, A⟩
  replace H := H.kn 19 hb
  refine AK 3 [(22, .bool false)] H fun fr H => ?_
  obtain rfl := AY hm
  exact at_nil ⟨H.ls, A⟩
 clear A
 intro t fr h7 hK
 obtain ⟨H, A⟩ := hK
 refine AO 1 [(2, .bool x7)] H fun fr H => AU ?_
 obtain rfl := AY hm
 exact ⟨.inl rfl, _, rH H, rfl, A⟩
def Dv (p0 : Bw) (p1 : AN) : Option (Int) :=
 (Ev p0.Ac p1.Name).bind fun (x1, x2) => Aa x2 (some (1 : Int)) ((LI p1.Name).bind fun (x3, x4) => Aa (x4 && p0.c_.I0) (some (2 : Int)) ((Aa p0.c_.Be ((KN p1.Name).bind fun x6 => some x6) (some false) : Option (Bool)).bind fun x5 => Aa x5 (some (3 : Int)) (some (0 : Int))))
theorem Hv {p0 p1 bp0 rp0_14 rp0_15 bp0_16 rp0_16_0 bp0_17 q0} (hm : Dv p0 p1 = some q0) (A : HH g h [.obj bp0 (.cells none 2 [vs AE p0.c_.Ak, vs AE p0.c_.Al, vs AJ p0.c_.Br, .bool p0.c_.I0, .bool p0.c_.Be, Ai p0.c_.Bv, .bool p0.c_.CR, Ai p0.c_.BK.DF, Ai p0.c_.BK.Bn, Ai p0.c_.IH, Ai p0.c_.CO, Ai p0.c_.Name, Ai p0.c_.Head, Ai p0.c_.Bl, AF rp0_14 p0.AZ.length, AF rp0_15 p0.Ac.length, .ptr (some (bp0_16, 0)), .ptr (some (bp0_17, 0))]), .AI rp0_14 136 (AI (eP AB) p0.AZ), .AI rp0_15 136 (AI (eP AB) p0.Ac), .obj bp0_16 (.cells none 2 [AF rp0_16_0 p0.Af.l_.length, Ai p0.Af.Bd]), .AI rp0_16_0 142 (AI (eP AL) p0.Af.l_), .obj bp0_17 (.cells none 2 ([Ai p0.Am.n_, Ai p0.Am.An] ++ (Cj 257 (AA.int .i64) p0.Am.BI ++ [])))] F) (hc : BF (cfg.still 40) av = [.ptr (some (bp0, 0)), .agg (AD p1)] := by kernel_rfl) : ∃ v h', BL cfg g h 40 av v h' ∧ v = Ai q0 ∧ HH g h' [.obj bp0 (.cells none 2 [vs AE p0.c_.Ak, vs AE p0.c_.Al, vs AJ p0.c_.Br, .bool p0.c_.I0, .bool p0.c_.Be, Ai p0.c_.Bv, .bool p0.c_.CR, Ai p0.c_.BK.DF, Ai p0.c_.BK.Bn, Ai p0.c_.IH, Ai p0.c_.CO, Ai p0.c_.Name, Ai p0.c_.Head, Ai p0.c_.Bl, AF rp0_14 p0.AZ.length, AF rp0_15 p0.Ac.length, .ptr (some (bp0_16, 0)), .ptr (some (bp0_17, 0))]), .AI rp0_14 136 (AI (eP AB) p0.AZ), .AI rp0_15 136 (AI (eP AB) p0.Ac), .obj bp0_16 (.cells none 2 [AF rp0_16_0 p0.Af.l_.length, Ai p0.Af.Bd]), .AI rp0_16_0 142 (AI (eP AL) p0.Af.l_), .obj bp0_17 (.cells none 2 ([Ai p0.Am.n_, Ai p0.Am.An] ++ (Cj 257 (AA.int .i64) p0.Am.BI ++ [])))] F := by
 refine Dr 44 [.tmp 4] hc ?_
 clear hc
 unfold Dv at hm
 refine bg 44 [(0, .ptr (some (bp0, 0))), (1, .agg (AD p1))] fun fr H => ?_
 refine AG 2 ?_
 obtain ⟨h1, e1, A⟩ := A.pu (.cells none 2 (AD p1))
 refine BB 3 (.ptr (some (h.size, 0))) e1 H fun fr t H => ?_
 refine AO 1 [] H fun fr H => AQ (AQ (Ep 1 12 ?_))
 refine Ag 3 [] 13 1 15 A H fun fr t H => ?_
 refine Ag 1 [] 15 0 0 A H fun fr t H => ?_
 replace A : HH g h1 [_, .obj h.size (.cells none 2 (AD p1)), _, _, _, _, _] F := (A.front 3 rfl)
 obtain ⟨⟨x1, x2⟩, hx, hm⟩ := bind_some hm
 obtain ⟨v1, h2, hr, rfl, A1⟩ := Hu (av := [AF rp0_15 p0.Ac.length, .str p1.Name]) hx (A.cut 1)
 replace A := A.g11 A1
 refine BA 16 hr H fun fr t H => ?_
 refine Bc 5 [(6, .bool x2)] 1 H fun fr H => AO 1 [(19, .bool x2)] H fun fr H => Ad 19 H hm (fun hb hm H => ?_) fun hb hm H => ?_
 ·refine AG 1 (AO 1 [(4, Ai 1)] H fun fr H => AU ?_)
  obtain rfl := AY hm
  refine ⟨.inl rfl, Ai 1, rH H, ?_⟩
  replace A := A.k6 2 3 0 4 5 6
  exact ⟨rfl, A⟩
 refine Bf id (AQ (AG 8 (Ag 1 [] 22 1 0 A H fun fr t H => ?_)))
 obtain ⟨⟨x3, x4⟩, hx, hm⟩ := bind_some hm
 obtain ⟨v1, h3, hr, rfl, A1⟩ := Q9 (av := [.str p1.Name]) hx (A.cut 0)
 replace A := A.EX A1
 refine BA 23 hr H fun fr t H => ?_
 refine Bc 5 [(8, .bool x4)] 8 H fun fr H => AK 2 [(27, .bool x4)] H fun fr H => A9 6 (fun fr' h' => h3 = h' ∧ Has fr' 44 [(0, .ptr (some (bp0, 0))), (3, .ptr (some (h.size, 0))), (33, .bool (x4 && p0.c_.I0))]) ?_ ?_
 ·cases hb : (x4 : Bool) with
  | true =>
   replace H := H.kn 27 hb
   refine Ag 4 [] 32 2 3 A H fun fr t H => ?_
   exact AK 1 [(33, .bool p0.c_.I0)] H fun fr H => BH H hb
  | false =>
   replace H := H.kn 27 hb
   exact AK 6 [(33, .bool false)] H fun fr H => BH H hb
 intro t fr h' hK
 obtain ⟨e, H⟩ := hK
 subst e
 refine BJ id (Ad 33 H hm (fun hb hm H => ?_) fun hb hm H => ?_)
 ·refine AG 1 (AO 1 [(4, Ai 2)] H fun fr H => AU ?_)
  obtain rfl := AY hm
  refine ⟨.inl rfl, Ai 2, rH H, ?_⟩
  replace A := A.k6 2 3 0 4 5 6
  exact ⟨rfl, A⟩
 refine Bf id (AQ (AG 10 (Ag 4 [] 38 2 4 A H fun fr t H => ?_)))
 refine AK 1 [(39, .bool p0.c_.Be)] H fun fr H => ?_
 obtain ⟨x5, ho, hm⟩ := bind_some hm
 refine A9 4 (fun fr' h' => Has fr' 44 [(43, .bool x5)] ∧ HH g h' [.AI rp0_15 136 (AI (eP AB) p0.Ac), .obj h.size (.cells none 2 (AD p1)), .obj bp0 (.cells none 2 [vs AE p0.c_.Ak, vs AE p0.c_.Al, vs AJ p0.c_.Br, .bool p0.c_.I0, .bool p0.c_.Be, Ai p0.c_.Bv, .bool p0.c_.CR, Ai p0.c_.BK.DF, Ai p0.c_.BK.Bn, Ai p0.c_.IH, Ai p0.c_.CO, Ai p0.c_.Name, Ai p0.c_.Head, Ai p0.c_.Bl, AF rp0_14 p0.AZ.length, AF rp0_15 p0.Ac.length, .ptr (some (bp0_16, 0)), .ptr (some (bp0_17, 0))]), .AI rp0_14 136 (AI (eP AB) p0.AZ), .obj bp0_16 (.cells none 2 [AF rp0_16_0 p0.Af.l_.length, Ai p0.Af.Bd]), .AI rp0_16_0 142 (AI (eP AL) p0.Af.l_), .obj bp0_17 (.cells none 2 ([Ai p0.Am.n_, Ai p0.Am.An] ++ (Cj 257 (AA.int .i64) p0.Am.BI ++ [])))] F) ?_ ?_
 ·rcases AX ho with ⟨hb, hm⟩ | ⟨hb, hm⟩
  ·replace H := H.kn 39 hb
   refine Ag 1 [] 41 1 0 A H fun fr t H => ?_
   obtain ⟨x6, hx, hm⟩ := bind_some hm
   obtain ⟨v1, h5, hr, rfl, A1⟩ := Pf (av := [.str p1.Name]) hx (A.cut 0)
   replace A := A.EX A1
   refine BA 42 hr H fun fr t H => ?_
   refine AK 1 [(43, .bool x6)] H fun fr H => ?_
   obtain rfl := AY hm
   exact at_nil ⟨H.ls, A⟩
  replace H := H.kn 39 hb
  refine AK 4 [(43, .bool false)] H fun fr H => ?_
  obtain rfl := AY hm
  exact at_nil ⟨H.ls, A⟩
 clear A
 intro t fr h4 hK
 obtain ⟨H, A⟩ := hK
 refine BJ id (Ad 43 H hm (fun hb hm H => ?_) fun hb hm H => ?_)
 ·refine AG 1 (AO 1 [(4, Ai 3)] H fun fr H => AU ?_)
  obtain rfl := AY hm
  refine ⟨.inl rfl, Ai 3, rH H, ?_⟩
  replace A := A.k6 2 3 0 4 5 6
  exact ⟨rfl, A⟩
 refine Ce 1 id (AO 1 [(4, Ai 0)] H fun fr H => AU ?_)
 obtain rfl := AY hm
 refine ⟨.inl rfl, Ai 0, rH H, ?_⟩
 replace A := A.k6 2 3 0 4 5 6
 exact ⟨rfl, A⟩
def B8 (p0 : Ay) (p2 : Int) (x1 : List (List UInt8)) (s : Int) : Option ((Int) ⊕ ((Unit) ⊕ (Bool))) :=
 match s with
 | x2 => Aa (decide (x2 < (x1.length : Int))) (((Qb x1 none (some x2)).bind fun x5 => (EE x5).bind fun x6 => Aa (!((Di p0.Cf x6).getD false)) (some (.inl ())) ((Aa (x2 == (IntKind.i64.wrap ((x1.length : Int) - 1))) ((Fc x1 x2).bind fun x8 => some (x8 == ([67, 65, 67, 72, 69, 68, 73, 82, 46, 84, 65, 71] : List UInt8))) (some false) : Option (Bool)).bind fun x7 => Aa ((p2 != 1) || (!x7)) (some (.inr true)) (some (.inl ()))) : Option ((Unit) ⊕ (Bool))).bind fun o2 => (match o2 with | .inl _ => some (.inl (IntKind.i64.wrap (x2 + 1))) | .inr x4 => some (.inr (.inr x4)))) (some (.inr (.inl ())))
def CF (p0 : Ay) (p1 : List UInt8) (p2 : Int) : Option (Bool) :=
 Aa ((decide (p2 < 1)) || (decide (p2 > 3))) (some false) ((EH p1).bind fun x1 => (loop (B8 p0 p2 x1) (0 : Int)).bind fun o1 => (match o1 with | .inl _ => Aa (p2 == 3) ((Aa (decide ((x1.length : Int) > 0)) ((EE x1).bind fun x10 => some ((Di p0.Cf x10).getD false)) (some false) : Option (Bool)).bind fun x9 => some x9) (some false) | .inr x3 => some x3))
theorem HO {p0 p1 p2 bp0 bp0_0 q0} (hm : CF p0 p1 p2 = some q0) (A : HH g h [.obj bp0 (.cells none 2 [.map (some bp0_0)]), .obj bp0_0 (.map 2 (BS (fun k : List UInt8 => .str k) (fun v : Bool => .bool v) p0.Cf))] F) (hc : BF (cfg.still 26) av = [.ptr (some (bp0, 0)), .str p1, Ai p2] := by kernel_rfl) : ∃ v h', BL cfg g h 26 av v h' ∧ v = .bool q0 ∧ HH g h' [.obj bp0 (.cells none 2 [.map (some bp0_0)]), .obj bp0_0 (.map 2 (BS (fun k : List UInt8 => .str k) (fun v : Bool => .bool v) p0.Cf))] F := by
 refine Dr 68 [.tmp 6] hc ?_
 clear hc
 unfold CF at hm
 refine bg 68 [(0, .ptr (some (bp0, 0))), (1, .str p1), (2, Ai p2)] fun fr H => ?_
 refine AG 1 (AO 1 [] H fun fr H => AQ (AG 6 (AK 3 [(12, .bool (decide (p2 < 1)))] H fun fr H => A9 3 (fun fr' h' => h = h' ∧ Has fr' 68 [(0, .ptr (some (bp0, 0))), (1, .str p1), (2, Ai p2), (15, .bool ((decide (p2 < 1)) || (decide (p2 > 3))))]) ?_ ?_)))
 ·cases hb : (decide (p2 < 1) : Bool) with
  | true =>
   replace H := H.kn 12 hb
   exact AK 3 [(15, .bool true)] H fun fr H => BH H hb
  | false =>
   replace H := H.kn 12 hb
   exact AK 3 [(15, .bool (decide (p2 > 3)))] H fun fr H => BH H hb
 intro t fr h' hK
 obtain ⟨e, H⟩ := hK
 subst e
 refine BJ id (Ad 15 H hm (fun hb hm H => ?_) fun hb hm H => ?_)
 ·refine AG 1 (AO 1 [(6, .bool false)] H fun fr H => AU ?_)
  obtain rfl := AY hm
  exact ⟨.inl rfl, _, rH H, rfl, A⟩
 refine Ce 3 id ?_
 obtain ⟨x1, hx, hm⟩ := bind_some hm
 obtain ⟨v1, h1, hr, rfl, A1⟩ := G2 (av := [.str p1]) hx (A.cut 0)
 replace A := A.EX A1
 refine A0 1 [] 17 hr H fun fr t H => ?_
 refine AO 1 [(7, vs eS x1)] H fun fr H => AQ (AG 3 (AO 3 [(19, Ai (x1.length : Int)), (20, Ai 0)] H fun fr H => AV (id := 0) (by kernel_rfl) ?_))
 obtain ⟨o1, ho, hm⟩ := bind_some hm
 refine Ax (Q' := fun e fr' h' => (e = .exit 0 ∧ .inl () = o1 ∧ Has fr' 68 [(0, .ptr (some (bp0, 0))), (2, Ai p2), (7, vs eS x1)] ∧ HH g h' [.obj bp0 (.cells none 2 [.map (some bp0_0)]), .obj bp0_0 (.map 2 (BS (fun k : List UInt8 => .str k) (fun v : Bool => .bool v) p0.Cf))] F) ∨ (∃ x3, e = .ret ∧ .inr x3 = o1 ∧ Has fr' 68 [(6, .bool x3)] ∧ HH g h' [.obj bp0 (.cells none 2 [.map (some bp0_0)]), .obj bp0_0 (.map 2 (BS (fun k : List UInt8 => .str k) (fun v : Bool => .bool v) p0.Cf))] F) ∨ False) ?_ ?_
 ·refine Bh (by kernel_rfl) (fun (s : Int) fr' h' => ∃ x2, x2 = s ∧ Has fr' 68 [(0, .ptr (some (bp0, 0))), (2, Ai p2), (7, vs eS x1), (19, Ai (x1.length : Int)), (20, Ai x2)] ∧ HH g h' [.obj bp0 (.cells none 2 [.map (some bp0_0)]), .obj bp0_0 (.map 2 (BS (fun k : List UInt8 => .str k) (fun v : Bool => .bool v) p0.Cf))] F) ho ⟨_, rfl, H.ls, A⟩ ?_
  clear ho hm H A
  intro s q fr h2 hI hm
  obtain ⟨x2, rfl, H, A⟩ := hI
  unfold B8 at hm
  refine AG 1 (AO 1 [(21, .bool (decide (x2 < (x1.length : Int))))] H fun fr H => AQ (Ad 21 H hm (fun hb hm H => ?_) fun hb hm H => ?_))
  ·refine Bf id (AQ ?_)
   obtain ⟨o2, ho, hm⟩ := bind_some hm
   refine Ax (Q' := fun e fr' h' => (e = .normal ∧ .inl () = o2 ∧ Has fr' 68 [(0, .ptr (some (bp0, 0))), (2, Ai p2), (7, vs eS x1), (19, Ai (x1.length : Int)), (20, Ai x2)] ∧ HH g h' [.obj bp0 (.cells none 2 [.map (some bp0_0)]), .obj bp0_0 (.map 2 (BS (fun k : List UInt8 => .str k) (fun v : Bool => .bool v) p0.Cf))] F) ∨ (∃ x4, e = .ret ∧ .inr x4 = o2 ∧ Has fr' 68 [(6, .bool x4)] ∧ HH g h' [.obj bp0 (.cells none 2 [.map (some bp0_0)]), .obj bp0_0 (.map 2 (BS (fun k : List UInt8 => .str k) (fun v : Bool => .bool v) p0.Cf))] F) ∨ False) ?_ ?_
   ·replace hm := ho
    clear ho
    refine AV (id := 1) (by kernel_rfl) ?_
    refine AG 2 (AO 2 [(8, Ai x2)] H fun fr H => AQ (AQ (L0 7 10 [(0, []), (1, []), (2, []), (3, []), (4, []), (5, []), (6, []), (7, [3]), (8, []), (9, [])] ?_)))
    refine AK 3 [(25, .ptr (some (bp0, 0)))] H fun fr H => DE 26 (.map (some bp0_0)) h2 [(3, bp0)] (g.Bq) H (fun fr => .of (Da (by kernel_rfl) (A.l1 0 0))) (fun fr H => ?_)
    refine AK 2 [(27, vs eS x1), (28, Ai x2)] H fun fr H => ?_
    obtain ⟨x5, hx, hm⟩ := bind_some hm
    refine DE 29 (vs eS x5) h2 [(3, bp0)] (g.Bq) H (fun fr => .of (S7 (e := eS) encS (k := .i64) (k' := .i64) (lo := none) (hi := (some x2)) (by kernel_rfl) hx)) (fun fr H => ?_)
    have A1 := A.J1 0 (pr := [bp0]) (.cons 0 rfl (by simp [Ck.ids]) .nil)
    obtain ⟨x6, hx, hm⟩ := bind_some hm
    obtain ⟨v1, h3, hr, rfl, A1⟩ := Hd (av := [vs eS x5]) hx A1
    replace A := A.X0 A1
    refine DE 30 (.str x6) h3 [(3, bp0)] (bp0 :: g.Bq) H (fun fr => Steps.call (by kernel_rfl) hr) (fun fr H => ?_)
    refine DE 31 (.bool ((Di p0.Cf x6).getD false)) h3 [(8, bp0_0), (3, bp0)] (g.Bq) H (fun fr => .of (SU (by kernel_rfl) (HH.T3 (kt := 9) (et := 4) (ek := fun k : List UInt8 => .str k) (ev := fun v : Bool => .bool v) (Rk (by kernel_rfl)) A 1 rfl (t := 115) (by kernel_rfl) (z := false) (by kernel_rfl) x6))) (fun fr H => ?_)
    refine AO 1 [(32, .bool (!((Di p0.Cf x6).getD false)))] H fun fr H => Ad 32 H hm (fun hb hm H => ?_) fun hb hm H => ?_
    ·refine BU (i := 1) (by kernel_rfl) ?_
     exact .inl ⟨rfl, AY hm, H.ls, A⟩
    refine Ce 13 id (AK 6 [(38, .bool (x2 == (IntKind.i64.wrap ((x1.length : Int) - 1))))] H fun fr H => ?_)
    obtain ⟨x7, ho, hm⟩ := bind_some hm
    refine A9 6 (fun fr' h' => Has fr' 68 [(0, .ptr (some (bp0, 0))), (2, Ai p2), (7, vs eS x1), (19, Ai (x1.length : Int)), (20, Ai x2), (44, .bool x7)] ∧ HH g h' [.obj bp0 (.cells none 2 [.map (some bp0_0)]), .obj bp0_0 (.map 2 (BS (fun k : List UInt8 => .str k) (fun v : Bool => .bool v) p0.Cf))] F) ?_ ?_
    ·rcases AX ho with ⟨hb, hm⟩ | ⟨hb, hm⟩
     ·replace H := H.kn 38 hb
      obtain ⟨x8, hx, hm⟩ := bind_some hm
      refine Ap 2 [] 41 (.A8 [.str x8]) h3 H (fun fr => .of (GC (e := eS) (x := x8) encS (by decide) (by kernel_rfl) hx)) fun fr t H => ?_
      refine Aq 42 (.str x8) h3 H (fun fr => .of (G0 (by kernel_rfl))) fun fr t H => ?_
      refine AK 2 [(44, .bool (x8 == ([67, 65, 67, 72, 69, 68, 73, 82, 46, 84, 65, 71] : List UInt8)))] H fun fr H => ?_
      obtain rfl := AY hm
      exact at_nil ⟨H.ls, A⟩
     replace H := H.kn 38 hb
     refine AK 6 [(44, .bool false)] H fun fr H => ?_
     obtain rfl := AY hm
     exact at_nil ⟨H.ls, A⟩
    clear A
    intro t fr h4 hK
    obtain ⟨H, A⟩ := hK
    refine Bc 1 [(9, .bool x7)] 6 H fun fr H => AK 3 [(47, .bool (p2 != 1))] H fun fr H => A9 3 (fun fr' h' => h4 = h' ∧ Has fr' 68 [(0, .ptr (some (bp0, 0))), (2, Ai p2), (7, vs eS x1), (19, Ai (x1.length : Int)), (20, Ai x2), (50, .bool ((p2 != 1) || (!x7)))]) ?_ ?_
    ·cases hb : (p2 != 1 : Bool) with
     | true =>
      replace H := H.kn 47 hb
      exact AK 3 [(50, .bool true)] H fun fr H => BH H hb
     | false =>
      replace H := H.kn 47 hb
      exact AK 3 [(50, .bool (!x7))] H fun fr H => BH H hb
    intro t fr h' hK
    obtain ⟨e, H⟩ := hK
    subst e
    refine BJ id (Ad 50 H hm (fun hb hm H => ?_) fun hb hm H => ?_)
    ·refine AG 1 (AO 1 [(6, .bool true)] H fun fr H => AU ?_)
     exact .inr (.inl ⟨_, rfl, AY hm, H.ls, A⟩)
    exact FL (.inl ⟨rfl, AY hm, H.ls, A⟩)
   clear ho
   clear A
   intro e fr h5 hQ
   rcases hQ with ⟨rfl, rfl, H, A⟩ | ⟨x4, rfl, rfl, H, A⟩ | hF
   ·show AW _ _ _ _ _ _ _
    refine Cy 2 (BV 2 [(0, .ptr (some (bp0, 0))), (2, Ai p2), (7, vs eS x1), (19, Ai (x1.length : Int)), (20, Ai (IntKind.i64.wrap (x2 + 1)))] H fun fr H => at_nil ?_)
    exact nx hm ⟨_, rfl, H.ls, A⟩
   ·exact nr hm fun e => Or.inr (.inl ⟨_, rfl, e, H.ls, A⟩)
   exact hF.elim
  refine BU (i := 0) (by kernel_rfl) ?_
  exact nr hm fun e => .inl ⟨rfl, e, H.ls, A⟩
 clear ho
 clear A
 intro e fr h6 hQ
 rcases hQ with ⟨rfl, rfl, H, A⟩ | ⟨x3, rfl, rfl, H, A⟩ | hF
 ·show AW _ _ _ _ _ _ _
  refine AQ (L0 12 17 [(0, []), (1, []), (2, []), (3, []), (4, []), (5, []), (6, []), (7, []), (8, []), (9, []), (10, []), (11, []), (12, []), (13, [11]), (14, []), (15, []), (16, [])] ?_)
  refine AK 3 [(54, .bool (p2 == 3))] H fun fr H => ?_
  rcases AX hm with ⟨hb, hm⟩ | ⟨hb, hm⟩
  ·replace H := H.kn 54 hb
   refine AK 5 [(59, .bool (decide ((x1.length : Int) > 0)))] H fun fr H => ?_
   obtain ⟨x9, ho, hm⟩ := bind_some hm
   refine A9 8 (fun fr' h' => Has fr' 68 [(67, .bool x9)] ∧ HH g h' [.obj bp0 (.cells none 2 [.map (some bp0_0)]), .obj bp0_0 (.map 2 (BS (fun k : List UInt8 => .str k) (fun v : Bool => .bool v) p0.Cf))] F) ?_ ?_
   ·rcases AX ho with ⟨hb, hm⟩ | ⟨hb, hm⟩
    ·replace H := H.kn 59 hb
     refine AK 3 [(62, .ptr (some (bp0, 0)))] H fun fr H => DE 63 (.map (some bp0_0)) h6 [(11, bp0)] (g.Bq) H (fun fr => .of (Da (by kernel_rfl) (A.l1 0 0))) (fun fr H => ?_)
     refine AK 1 [(64, vs eS x1)] H fun fr H => ?_
     have A1 := A.J1 0 (pr := [bp0]) (.cons 0 rfl (by simp [Ck.ids]) .nil)
     obtain ⟨x10, hx, hm⟩ := bind_some hm
     obtain ⟨v1, h8, hr, rfl, A1⟩ := Hd (av := [vs eS x1]) hx A1
     replace A := A.X0 A1
     refine DE 65 (.str x10) h8 [(11, bp0)] (bp0 :: g.Bq) H (fun fr => Steps.call (by kernel_rfl) hr) (fun fr H => ?_)
     refine DE 66 (.bool ((Di p0.Cf x10).getD false)) h8 [(14, bp0_0), (11, bp0)] (g.Bq) H (fun fr => .of (SU (by kernel_rfl) (HH.T3 (kt := 9) (et := 4) (ek := fun k : List UInt8 => .str k) (ev := fun v : Bool => .bool v) (Rk (by kernel_rfl)) A 1 rfl (t := 115) (by kernel_rfl) (z := false) (by kernel_rfl) x10))) (fun fr H => ?_)
     refine AK 1 [(67, .bool ((Di p0.Cf x10).getD false))] H fun fr H => ?_
     obtain rfl := AY hm
     exact at_nil ⟨H.ls, A⟩
    replace H := H.kn 59 hb
    refine AK 5 [(63, .tuple []), (64, .tuple [])] H fun fr H => Ta [(59, .bool false), (63, .tuple []), (65, .tuple [])] H (fun fr => by kernel_rfl) ?_
    intro fr H
    refine AK 2 [(67, .bool false)] H fun fr H => ?_
    obtain rfl := AY hm
    exact at_nil ⟨H.ls, A⟩
   clear A
   intro t fr h7 hK
   obtain ⟨H, A⟩ := hK
   refine AO 1 [(6, .bool x9)] H fun fr H => AU ?_
   obtain rfl := AY hm
   exact ⟨.inl rfl, _, rH H, rfl, A⟩
  replace H := H.kn 54 hb
  refine AK 10 [(59, .bool false), (63, .tuple []), (64, .tuple [])] H fun fr H => Ta [(59, .bool false), (63, .tuple []), (65, .tuple [])] H (fun fr => by kernel_rfl) ?_
  intro fr H
  refine AO 3 [(6, .bool false)] H fun fr H => AU ?_
  obtain rfl := AY hm
  exact ⟨.inl rfl, _, rH H, rfl, A⟩
 ·obtain rfl := AY hm
  exact ⟨.inl rfl, _, rH H, rfl, A⟩
 exact hF.elim
def DM (p0 : AN) (p1_0 : Ay) (p2_0 : Bw) : Option (Int) :=
 (CF p1_0 p0.Name p2_0.c_.Bv).bind fun x1 => Aa x1 (some (4 : Int)) (some (0 : Int))
theorem Gw {p0 p1_0 p2_0 bp1 bp1_0 bp1_0_0 bp2 bp2_0 rp2_0_14 rp2_0_15 bp2_0_16 rp2_0_16_0 bp2_0_17 q0} (hm : DM p0 p1_0 p2_0 = some q0) (A : HH g h [.obj bp1 (.cells none 2 [.ptr (some (bp1_0, 0))]), .obj bp1_0 (.cells none 2 [.map (some bp1_0_0)]), .obj bp1_0_0 (.map 2 (BS (fun k : List UInt8 => .str k) (fun v : Bool => .bool v) p1_0.Cf)), .obj bp2 (.cells none 2 [.ptr (some (bp2_0, 0))]), .obj bp2_0 (.cells none 2 [vs AE p2_0.c_.Ak, vs AE p2_0.c_.Al, vs AJ p2_0.c_.Br, .bool p2_0.c_.I0, .bool p2_0.c_.Be, Ai p2_0.c_.Bv, .bool p2_0.c_.CR, Ai p2_0.c_.BK.DF, Ai p2_0.c_.BK.Bn, Ai p2_0.c_.IH, Ai p2_0.c_.CO, Ai p2_0.c_.Name, Ai p2_0.c_.Head, Ai p2_0.c_.Bl, AF rp2_0_14 p2_0.AZ.length, AF rp2_0_15 p2_0.Ac.length, .ptr (some (bp2_0_16, 0)), .ptr (some (bp2_0_17, 0))]), .AI rp2_0_14 136 (AI (eP AB) p2_0.AZ), .AI rp2_0_15 136 (AI (eP AB) p2_0.Ac), .obj bp2_0_16 (.cells none 2 [AF rp2_0_16_0 p2_0.Af.l_.length, Ai p2_0.Af.Bd]), .AI rp2_0_16_0 142 (AI (eP AL) p2_0.Af.l_), .obj bp2_0_17 (.cells none 2 ([Ai p2_0.Am.n_, Ai p2_0.Am.An] ++ (Cj 257 (AA.int .i64) p2_0.Am.BI ++ [])))] F) (hc : BF (cfg.still 39) av = [.agg (AD p0), .ptr (some (bp1, 0)), .ptr (some (bp2, 0))] := by kernel_rfl) : ∃ v h', BL cfg g h 39 av v h' ∧ v = Ai q0 ∧ HH g h' [.obj bp1 (.cells none 2 [.ptr (some (bp1_0, 0))]), .obj bp1_0 (.cells none 2 [.map (some bp1_0_0)]), .obj bp1_0_0 (.map 2 (BS (fun k : List UInt8 => .str k) (fun v : Bool => .bool v) p1_0.Cf)), .obj bp2 (.cells none 2 [.ptr (some (bp2_0, 0))]), .obj bp2_0 (.cells none 2 [vs AE p2_0.c_.Ak, vs AE p2_0.c_.Al, vs AJ p2_0.c_.Br, .bool p2_0.c_.I0, .bool p2_0.c_.Be, Ai p2_0.c_.Bv, .bool p2_0.c_.CR, Ai p2_0.c_.BK.DF, Ai p2_0.c_.BK.Bn, Ai p2_0.c_.IH, Ai p2_0.c_.CO, Ai p2_0.c_.Name, Ai p2_0.c_.Head, Ai p2_0.c_.Bl, AF rp2_0_14 p2_0.AZ.length, AF rp2_0_15 p2_0.Ac.length, .ptr (some (bp2_0_16, 0)), .ptr (some (bp2_0_17, 0))]), .AI rp2_0_14 136 (AI (eP AB) p2_0.AZ), .AI rp2_0_15 136 (AI (eP AB) p2_0.Ac), .obj bp2_0_16 (.cells none 2 [AF rp2_0_16_0 p2_0.Af.l_.length, Ai p2_0.Af.Bd]), .AI rp2_0_16_0 142 (AI (eP AL) p2_0.Af.l_), .obj bp2_0_17 (.cells none 2 ([Ai p2_0.Am.n_, Ai p2_0.Am.An] ++ (Cj 257 (AA.int .i64) p2_0.Am.BI ++ [])))] F := by
 refine Dr 18 [.tmp 4] hc ?_
 clear hc
 unfold DM at hm
 refine bg 18 [(0, .agg (AD p0)), (1, .ptr (some (bp1, 0))), (2, .ptr (some (bp2, 0)))] fun fr H => ?_
 refine AG 2 ?_
 obtain ⟨h1, e1, A⟩ := A.pu (.cells none 2 (AD p0))
 refine BB 3 (.ptr (some (h.size, 0))) e1 H fun fr t H => ?_
 refine AO 1 [] H fun fr H => AQ (AQ (Ep 1 13 ?_))
 refine FK 5 1 0 A H fun fr t H => ?_
 refine Ag 2 [(7, .bool true)] 8 1 0 A H fun fr t H => ?_
 refine Ag 1 [] 10 0 0 A H fun fr t H => ?_
 refine FK 11 4 0 A H fun fr t H => ?_
 refine Ag 3 [] 15 5 5 A H fun fr t H => ?_
 replace A : HH g h1 [_, _, .obj h.size (.cells none 2 (AD p0)), _, _, _, _, _, _, _, _] F := ((A.front 3 rfl).front 3 rfl)
 obtain ⟨x1, hx, hm⟩ := bind_some hm
 obtain ⟨v1, h2, hr, rfl, A1⟩ := HO (av := [.ptr (some (bp1_0, 0)), .str p0.Name, Ai p2_0.c_.Bv]) hx (A.cut 2)
 replace A := A.g22 A1
 refine BA 16 hr H fun fr t H => ?_
 refine AO 1 [(17, .bool x1)] H fun fr H => Ad 17 H hm (fun hb hm H => ?_) fun hb hm H => ?_
 ·refine AG 1 (AO 1 [(4, Ai 4)] H fun fr H => AU ?_)
  obtain rfl := AY hm
  refine ⟨.inl rfl, Ai 4, rH H, ?_⟩
  replace A : HH g h2 [_, _, _, _, _, _, _, _, _, _] F := (HH.JS ((((((((((A.front 10 rfl).front 10 rfl).front 10 rfl).front 10 rfl).front 10 rfl).front 10 rfl).front 10 rfl).front 8 rfl).front 8 rfl).front 10 rfl) 10)
  exact ⟨rfl, A⟩
 refine Ce 1 id (AO 1 [(4, Ai 0)] H fun fr H => AU ?_)
 obtain rfl := AY hm
 refine ⟨.inl rfl, Ai 0, rH H, ?_⟩
 replace A : HH g h2 [_, _, _, _, _, _, _, _, _, _] F := (HH.JS ((((((((((A.front 10 rfl).front 10 rfl).front 10 rfl).front 10 rfl).front 10 rfl).front 10 rfl).front 10 rfl).front 8 rfl).front 8 rfl).front 10 rfl) 10)
 exact ⟨rfl, A⟩
def LP (p0 : Ar) (p1 : Ar) : Option (Int) :=
 (Xh cfg.P 23 [Ai p0.DF, Ai p0.Bn] [Ai p1.DF, Ai p1.Bn]).bind fun x1 => Aa x1 (some (0 : Int)) (Aa ((decide (p0.DF < p1.DF)) || ((p0.DF == p1.DF) && (decide (p0.Bn < p1.Bn)))) (some (-1 : Int)) (some (1 : Int)))
theorem RR {p0 p1 q0} (hm : LP p0 p1 = some q0) (A : HH g h [] F) (hc : BF (cfg.still 141) av = [.agg [Ai p0.DF, Ai p0.Bn], .agg [Ai p1.DF, Ai p1.Bn]] := by kernel_rfl) : ∃ v h', BL cfg g h 141 av v h' ∧ v = Ai q0 ∧ HH g h' [] F := by
 refine Dr 27 [.tmp 4] hc ?_
 clear hc
 unfold LP at hm
 refine bg 27 [(0, .agg [Ai p0.DF, Ai p0.Bn]), (1, .agg [Ai p1.DF, Ai p1.Bn])] fun fr H => ?_
 refine AG 3 ?_
 obtain ⟨h1, e1, A⟩ := A.pu (.cells none 2 [Ai p0.DF, Ai p0.Bn])
 refine BB 2 (.ptr (some (h.size, 0))) e1 H fun fr t H => ?_
 obtain ⟨h2, e2, A⟩ := A.pu (.cells none 2 [Ai p1.DF, Ai p1.Bn])
 refine BB 3 (.ptr (some (h1.size, 0))) e2 H fun fr t H => ?_
 refine AO 1 [] H fun fr H => AQ (AG 3 (Aq 5 _ _ H (fun fr => .of (CG (by kernel_rfl) (A.HG 1 rfl (o := 0) (n := 2) ⟨Nat.le_of_ble_eq_true rfl, rfl⟩))) fun fr t H => ?_))
 refine Aq 6 _ _ H (fun fr => .of (CG (by kernel_rfl) (A.HG 0 rfl (o := 0) (n := 2) ⟨Nat.le_of_ble_eq_true rfl, rfl⟩))) fun fr t H => ?_
 obtain ⟨x1, hx, hm⟩ := bind_some hm
 refine Aq 7 (.bool x1) h2 H (fun fr => .of (YT (by kernel_rfl) hx)) fun fr t H => ?_
 refine BJ id (Ad 7 H hm (fun hb hm H => ?_) fun hb hm H => ?_)
 ·refine AG 1 (AO 1 [(4, Ai 0)] H fun fr H => AU ?_)
  obtain rfl := AY hm
  refine ⟨.inl rfl, Ai 0, rH H, ?_⟩
  replace A := A.d0
  exact ⟨rfl, A⟩
 refine Bf id (AQ (AG 19 (Ag 1 [] 9 1 0 A H fun fr t H => ?_)))
 refine Ag 1 [] 11 0 0 A H fun fr t H => ?_
 refine AK 2 [(13, .bool (decide (p0.DF < p1.DF)))] H fun fr H => A9 13 (fun fr' h' => h2 = h' ∧ Has fr' 27 [(26, .bool ((decide (p0.DF < p1.DF)) || ((p0.DF == p1.DF) && (decide (p0.Bn < p1.Bn)))))]) ?_ ?_
 ·cases hb : (decide (p0.DF < p1.DF) : Bool) with
  | true =>
   replace H := H.kn 13 hb
   exact AK 13 [(26, .bool true)] H fun fr H => BH H hb
  | false =>
   replace H := H.kn 13 hb
   refine Ag 1 [] 15 1 0 A H fun fr t H => ?_
   refine Ag 1 [] 17 0 0 A H fun fr t H => ?_
   refine AK 2 [(19, .bool (p0.DF == p1.DF))] H fun fr H => A9 6 (fun fr' h' => h2 = h' ∧ Has fr' 27 [(13, .bool false), (25, .bool ((p0.DF == p1.DF) && (decide (p0.Bn < p1.Bn))))]) ?_ ?_
   ·cases hb : (p0.DF == p1.DF : Bool) with
    | true =>
     replace H := H.kn 19 hb
     refine Ag 1 [] 21 1 1 A H fun fr t H => ?_
     refine Ag 1 [] 23 0 1 A H fun fr t H => ?_
     exact AK 2 [(25, .bool (decide (p0.Bn < p1.Bn)))] H fun fr H => BH H hb
    | false =>
     replace H := H.kn 19 hb
     exact AK 6 [(25, .bool false)] H fun fr H => BH H hb
   intro t fr h' hK
   obtain ⟨e, H⟩ := hK
   subst e
   exact AK 1 [(26, .bool ((p0.DF == p1.DF) && (decide (p0.Bn < p1.Bn))))] H fun fr H => BH H hb
 intro t fr h' hK
 obtain ⟨e, H⟩ := hK
 subst e
 refine BJ id (Ad 26 H hm (fun hb hm H => ?_) fun hb hm H => ?_)
 ·refine AG 1 (AO 1 [(4, Ai (-1))] H fun fr H => AU ?_)
  obtain rfl := AY hm
  refine ⟨.inl rfl, Ai (-1), rH H, ?_⟩
  replace A := A.d0
  exact ⟨rfl, A⟩
 refine Ce 1 id (AO 1 [(4, Ai 1)] H fun fr H => AU ?_)
 obtain rfl := AY hm
 refine ⟨.inl rfl, Ai 1, rH H, ?_⟩
 replace A := A.d0
 exact ⟨rfl, A⟩
end
end Go.Av.L
