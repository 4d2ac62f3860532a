/-
 A part.
-/
import Derived.Test.YtlljeoogceblmaaGreatDoorKCfg
import Derived.Test.YtlljeoogceblmaaGreatDoorK0
import Derived.Test.YtlljeoogceblmaaGreatDoorK1
namespace Go.Av.L
open Go.Av Go.Lib
set_option maxRecDepth 10000
set_option linter.unusedVariables false
set_option linter.unusedSimpArgs false
variable {g : Gd} {h : AD} {F : List Ck} {av : List AA}
noncomputable section
def B1 (p0 : List UInt8) (p1 : List UInt8) (p2_10 : Int) (p3 : AJ) (p4 : List AB) : Option (AJ × (List AB)) :=
 (FE p3 p2_10).bind fun x1 => (A9 x1).bind fun x2 => Ad (x2 == 0) (some (x1, p4)) (D3 (R4 32 (p4.length + ([(⟨p0, p1⟩ : AB)] : List AB).length)) <| some (p3, (p4 ++ ([(⟨p0, p1⟩ : AB)] : List AB))))
theorem HY {p0 p1 p2_10 p3 p4 bp2_10 bp3 bp4 rp4_0 u1 u3} (hm : B1 p0 p1 p2_10 p3 p4 = some (u1, u3)) (A : HH g h [.obj bp2_10 (.cells none 2 [Ai p2_10]), .obj bp3 (.cells none 2 (AF p3)), .obj bp4 (.cells none 2 [Af rp4_0 p4.length]), .Ak rp4_0 117 (Ak AE p4)] F) (hc : BG (cfg.still 120) av = [.str p0, .str p1, .func (.func 128) [] [.ptr (some (bp2_10, 0))], .ptr (some (bp3, 0)), .ptr (some (bp4, 0))] := by kernel_rfl) : ∃ v h', BH cfg g h 120 av v h' ∧ ∃ (r'3 : Option Nat), v = .tuple [] ∧ HH g h' [.obj bp2_10 (.cells none 2 [Ai p2_10]), .obj bp3 (.cells none 2 (AF u1)), .obj bp4 (.cells none 2 [Af r'3 u3.length]), .Ak r'3 117 (Ak AE u3)] F := by
 refine ES 22 [] hc ?_
 clear hc
 unfold B1 at hm
 refine bg 22 [(0, .str p0), (1, .str p1), (2, .func (.func 128) [] [.ptr (some (bp2_10, 0))]), (3, .ptr (some (bp3, 0))), (4, .ptr (some (bp4, 0)))] fun fr H => ?_
 refine AG 3 (Ae 9 _ _ H (fun fr => .of (BM (by kernel_rfl) (A.Eh 1 rfl (o := 0) (n := 13) ⟨Nat.le_of_ble_eq_true rfl, rfl⟩))) fun fr t H => ?_)
 obtain ⟨h1, e1, A⟩ := A.pu (.cells none 2 [.str ([] : List UInt8), .str ([] : List UInt8), Ab 0, Ai 0, Ai 0, Ai 0, Ai 0, Ai 0, .str ([] : List UInt8), .str ([] : List UInt8), Ai 0, Ai 0, Ai 0])
 refine BK 8 (.ptr (some (h.size, 0))) e1 H fun fr t H => ?_
 obtain ⟨h2, hx, A⟩ := A.s0 0 (AF p3) [_, _, _, _, _, _, _, _, _, _, _, _, _]
 refine Ch hx H fun fr t H => ?_
 refine BI id (AP (AG 2 ?_))
 obtain ⟨x1, hx, hm⟩ := bind_some hm
 obtain ⟨v1, h3, hr, rfl, A1⟩ := KY (av := [.ptr (some (h.size, 0)), .ptr (some (bp2_10, 0))]) hx (A.cut 2)
 replace A := A.g22 A1
 refine Ef 1 [] hr H fun fr t H => ?_
 refine CJ 3 id (Ae 12 _ _ H (fun fr => .of (BM (by kernel_rfl) (A.Eh 0 rfl (o := 0) (n := 13) ⟨Nat.le_of_ble_eq_true rfl, rfl⟩))) fun fr t H => ?_)
 obtain ⟨x2, hx, hm⟩ := bind_some hm
 obtain ⟨v1, h4, hr, rfl, A1⟩ := CS (av := [.agg (AF x1)]) hx (A.cut 0)
 replace A := A.DN A1
 refine Aw 13 hr H fun fr t H => ?_
 refine AK 1 [(14, .bool (x2 == 0))] H fun fr H => AZ 14 H hm (fun hb hm H => ?_) fun hb hm H => ?_
 ·refine AG 2 (Ae 15 _ _ H (fun fr => .of (BM (by kernel_rfl) (A.Eh 0 rfl (o := 0) (n := 13) ⟨Nat.le_of_ble_eq_true rfl, rfl⟩))) fun fr t H => ?_)
  obtain ⟨h5, hx, A⟩ := A.s2 0 (AF x1) [_, _, _, _, _, _, _, _, _, _, _, _, _]
  refine Ch hx H fun fr t H => ?_
  refine BI id (AS ?_)
  obtain ⟨rfl, rfl⟩ := BD hm
  refine ⟨.inl rfl, .tuple [], rH H, ?_⟩
  replace A := A.k4 1 2 3 4
  exact ⟨rp4_0, rfl, A⟩
 refine DI 7 id (Mi 16 3 0 A H fun fr t H => ?_)
 refine AM 3 [(19, .agg [.str p0, .str p1])] H fun fr H => ?_
 obtain ⟨h6, e2, A⟩ := A.pL 117 [.str p0, .str p1]
 refine BK 20 (Af (some h4.size) (([(⟨p0, p1⟩ : AB)] : List AB).length)) e2 H fun fr t H => ?_
 obtain ⟨hb, hm⟩ := A4 hm
 obtain ⟨r1, h7, hx, A1⟩ := HH.N7 Am (by decide) A 5 (xs := p4) (ys := ([(⟨p0, p1⟩ : AB)] : List AB)) rfl (Dy A 0 rfl (n := ([(⟨p0, p1⟩ : AB)] : List AB).length) (z := 2) rfl (by decide)) rfl rfl hb
 replace A : HH g h7 [.Ak (some h4.size) 117 ([.str p0, .str p1]), _, _, _, _, .Ak r1 117 (Ak AE (p4 ++ ([(⟨p0, p1⟩ : AB)] : List AB)))] F := A1
 replace A := A.k5 1 2 3 4 5
 refine Ae 21 _ _ H (fun fr => .of (IT (s := EF rp4_0 p4.length) (by kernel_rfl) hx)) fun fr t H => ?_
 obtain ⟨h8, hx, A1⟩ := A.st 3 rfl (o := 0) (new := [Af r1 ((p4 ++ ([(⟨p0, p1⟩ : AB)] : List AB)).length)]) (ds := [Af r1 ((p4 ++ ([(⟨p0, p1⟩ : AB)] : List AB)).length)]) (Nat.le_of_ble_eq_true rfl) rfl rfl
 replace A : HH g h8 [_, _, _, .obj bp4 (.cells none 2 [Af r1 ((p4 ++ ([(⟨p0, p1⟩ : AB)] : List AB)).length)]), _] F := A1
 refine JB hx H fun fr t H => ?_
 refine at_nil ?_
 obtain ⟨rfl, rfl⟩ := BD hm
 refine ⟨.inr rfl, .tuple [], rH H, ?_⟩
 replace A := A.k4 1 2 3 4
 exact ⟨r1, rfl, A⟩
def FJ (p0 : AJ) (p1 : AL) : Option (AJ) :=
 some (⟨p0.Name, p0.AU, p0.Kind, p0.Mode, p1.BP, p0.BQ, p0.BU, p0.Time, p0.AN, p0.AO, p0.Aa, p0.Ag, p0.Form⟩ : AJ)
theorem KS {p0 p1 bp0 bp1 u0} (hm : FJ p0 p1 = some u0) (A : HH g h [.obj bp0 (.cells none 2 (AF p0)), .obj bp1 (.cells none 2 (AI p1))] F) (hc : BG (cfg.still 129) av = [.ptr (some (bp0, 0)), .ptr (some (bp1, 0))] := by kernel_rfl) : ∃ v h', BH cfg g h 129 av v h' ∧ v = .tuple [] ∧ HH g h' [.obj bp0 (.cells none 2 (AF u0)), .obj bp1 (.cells none 2 (AI p1))] F := by
 refine ES 8 [] hc ?_
 clear hc
 unfold FJ at hm
 refine bg 8 [(0, .ptr (some (bp0, 0))), (1, .ptr (some (bp1, 0)))] fun fr H => ?_
 refine CX 6 (AV 2 [(3, .ptr (some (bp0, 0)))] 5 1 4 A H fun fr t H => ?_)
 obtain ⟨h1, hx, A⟩ := A.s0 4 [Ai p1.BP] [_, _, _, _, _, _, _, _, _, _, _, _, _]
 refine CF 2 [] hx H fun fr t H => ?_
 refine at_nil ?_
 obtain rfl := An hm
 refine ⟨.inr rfl, .tuple [], rH H, ?_⟩
 exact ⟨rfl, A⟩
def By (p0 : List UInt8) (p1 : List UInt8) (p2_10 : AL) (p3 : AJ) (p4 : List AB) : Option (AJ × (List AB)) :=
 (FJ p3 p2_10).bind fun x1 => (A9 x1).bind fun x2 => Ad (x2 == 0) (some (x1, p4)) (D3 (R4 32 (p4.length + ([(⟨p0, p1⟩ : AB)] : List AB).length)) <| some (p3, (p4 ++ ([(⟨p0, p1⟩ : AB)] : List AB))))
theorem HJ {p0 p1 p2_10 p3 p4 bp2_10 bp3 bp4 rp4_0 u1 u3} (hm : By p0 p1 p2_10 p3 p4 = some (u1, u3)) (A : HH g h [.obj bp2_10 (.cells none 2 (AI p2_10)), .obj bp3 (.cells none 2 (AF p3)), .obj bp4 (.cells none 2 [Af rp4_0 p4.length]), .Ak rp4_0 117 (Ak AE p4)] F) (hc : BG (cfg.still 120) av = [.str p0, .str p1, .func (.func 129) [] [.ptr (some (bp2_10, 0))], .ptr (some (bp3, 0)), .ptr (some (bp4, 0))] := by kernel_rfl) : ∃ v h', BH cfg g h 120 av v h' ∧ ∃ (r'3 : Option Nat), v = .tuple [] ∧ HH g h' [.obj bp2_10 (.cells none 2 (AI p2_10)), .obj bp3 (.cells none 2 (AF u1)), .obj bp4 (.cells none 2 [Af r'3 u3.length]), .Ak r'3 117 (Ak AE u3)] F := by
 refine ES 22 [] hc ?_
 clear hc
 unfold By at hm
 refine bg 22 [(0, .str p0), (1, .str p1), (2, .func (.func 129) [] [.ptr (some (bp2_10, 0))]), (3, .ptr (some (bp3, 0))), (4, .ptr (some (bp4, 0)))] fun fr H => ?_
 refine AG 3 (Ae 9 _ _ H (fun fr => .of (BM (by kernel_rfl) (A.Eh 1 rfl (o := 0) (n := 13) ⟨Nat.le_of_ble_eq_true rfl, rfl⟩))) fun fr t H => ?_)
 obtain ⟨h1, e1, A⟩ := A.pu (.cells none 2 [.str ([] : List UInt8), .str ([] : List UInt8), Ab 0, Ai 0, Ai 0, Ai 0, Ai 0, Ai 0, .str ([] : List UInt8), .str ([] : List UInt8), Ai 0, Ai 0, Ai 0])
 refine BK 8 (.ptr (some (h.size, 0))) e1 H fun fr t H => ?_
 obtain ⟨h2, hx, A⟩ := A.s0 0 (AF p3) [_, _, _, _, _, _, _, _, _, _, _, _, _]
 refine Ch hx H fun fr t H => ?_
 refine BI id (AP (AG 2 ?_))
 obtain ⟨x1, hx, hm⟩ := bind_some hm
 obtain ⟨v1, h3, hr, rfl, A1⟩ := KS (av := [.ptr (some (h.size, 0)), .ptr (some (bp2_10, 0))]) hx (A.cut 2)
 replace A := A.g22 A1
 refine Ef 1 [] hr H fun fr t H => ?_
 refine CJ 3 id (Ae 12 _ _ H (fun fr => .of (BM (by kernel_rfl) (A.Eh 0 rfl (o := 0) (n := 13) ⟨Nat.le_of_ble_eq_true rfl, rfl⟩))) fun fr t H => ?_)
 obtain ⟨x2, hx, hm⟩ := bind_some hm
 obtain ⟨v1, h4, hr, rfl, A1⟩ := CS (av := [.agg (AF x1)]) hx (A.cut 0)
 replace A := A.DN A1
 refine Aw 13 hr H fun fr t H => ?_
 refine AK 1 [(14, .bool (x2 == 0))] H fun fr H => AZ 14 H hm (fun hb hm H => ?_) fun hb hm H => ?_
 ·refine AG 2 (Ae 15 _ _ H (fun fr => .of (BM (by kernel_rfl) (A.Eh 0 rfl (o := 0) (n := 13) ⟨Nat.le_of_ble_eq_true rfl, rfl⟩))) fun fr t H => ?_)
  obtain ⟨h5, hx, A⟩ := A.s2 0 (AF x1) [_, _, _, _, _, _, _, _, _, _, _, _, _]
  refine Ch hx H fun fr t H => ?_
  refine BI id (AS ?_)
  obtain ⟨rfl, rfl⟩ := BD hm
  refine ⟨.inl rfl, .tuple [], rH H, ?_⟩
  replace A := A.k4 1 2 3 4
  exact ⟨rp4_0, rfl, A⟩
 refine DI 7 id (Mi 16 3 0 A H fun fr t H => ?_)
 refine AM 3 [(19, .agg [.str p0, .str p1])] H fun fr H => ?_
 obtain ⟨h6, e2, A⟩ := A.pL 117 [.str p0, .str p1]
 refine BK 20 (Af (some h4.size) (([(⟨p0, p1⟩ : AB)] : List AB).length)) e2 H fun fr t H => ?_
 obtain ⟨hb, hm⟩ := A4 hm
 obtain ⟨r1, h7, hx, A1⟩ := HH.N7 Am (by decide) A 5 (xs := p4) (ys := ([(⟨p0, p1⟩ : AB)] : List AB)) rfl (Dy A 0 rfl (n := ([(⟨p0, p1⟩ : AB)] : List AB).length) (z := 2) rfl (by decide)) rfl rfl hb
 replace A : HH g h7 [.Ak (some h4.size) 117 ([.str p0, .str p1]), _, _, _, _, .Ak r1 117 (Ak AE (p4 ++ ([(⟨p0, p1⟩ : AB)] : List AB)))] F := A1
 replace A := A.k5 1 2 3 4 5
 refine Ae 21 _ _ H (fun fr => .of (IT (s := EF rp4_0 p4.length) (by kernel_rfl) hx)) fun fr t H => ?_
 obtain ⟨h8, hx, A1⟩ := A.st 3 rfl (o := 0) (new := [Af r1 ((p4 ++ ([(⟨p0, p1⟩ : AB)] : List AB)).length)]) (ds := [Af r1 ((p4 ++ ([(⟨p0, p1⟩ : AB)] : List AB)).length)]) (Nat.le_of_ble_eq_true rfl) rfl rfl
 replace A : HH g h8 [_, _, _, .obj bp4 (.cells none 2 [Af r1 ((p4 ++ ([(⟨p0, p1⟩ : AB)] : List AB)).length)]), _] F := A1
 refine JB hx H fun fr t H => ?_
 refine at_nil ?_
 obtain ⟨rfl, rfl⟩ := BD hm
 refine ⟨.inr rfl, .tuple [], rH H, ?_⟩
 replace A := A.k4 1 2 3 4
 exact ⟨r1, rfl, A⟩
def FI (p0 : AJ) (p1 : AL) : Option (AJ) :=
 some (⟨p0.Name, p0.AU, p0.Kind, p0.Mode, p0.BP, p0.BQ, p0.BU, p0.Time, p1.AN, p0.AO, p0.Aa, p0.Ag, p0.Form⟩ : AJ)
theorem KV {p0 p1 bp0 bp1 u0} (hm : FI p0 p1 = some u0) (A : HH g h [.obj bp0 (.cells none 2 (AF p0)), .obj bp1 (.cells none 2 (AI p1))] F) (hc : BG (cfg.still 130) av = [.ptr (some (bp0, 0)), .ptr (some (bp1, 0))] := by kernel_rfl) : ∃ v h', BH cfg g h 130 av v h' ∧ v = .tuple [] ∧ HH g h' [.obj bp0 (.cells none 2 (AF u0)), .obj bp1 (.cells none 2 (AI p1))] F := by
 refine ES 8 [] hc ?_
 clear hc
 unfold FI at hm
 refine bg 8 [(0, .ptr (some (bp0, 0))), (1, .ptr (some (bp1, 0)))] fun fr H => ?_
 refine CX 6 (AV 2 [(3, .ptr (some (bp0, 0)))] 5 1 6 A H fun fr t H => ?_)
 obtain ⟨h1, hx, A⟩ := A.s0 8 [.str p1.AN] [_, _, _, _, _, _, _, _, _, _, _, _, _]
 refine CF 2 [] hx H fun fr t H => ?_
 refine at_nil ?_
 obtain rfl := An hm
 refine ⟨.inr rfl, .tuple [], rH H, ?_⟩
 exact ⟨rfl, A⟩
def B2 (p0 : List UInt8) (p1 : List UInt8) (p2_10 : AL) (p3 : AJ) (p4 : List AB) : Option (AJ × (List AB)) :=
 (FI p3 p2_10).bind fun x1 => (A9 x1).bind fun x2 => Ad (x2 == 0) (some (x1, p4)) (D3 (R4 32 (p4.length + ([(⟨p0, p1⟩ : AB)] : List AB).length)) <| some (p3, (p4 ++ ([(⟨p0, p1⟩ : AB)] : List AB))))
theorem HC {p0 p1 p2_10 p3 p4 bp2_10 bp3 bp4 rp4_0 u1 u3} (hm : B2 p0 p1 p2_10 p3 p4 = some (u1, u3)) (A : HH g h [.obj bp2_10 (.cells none 2 (AI p2_10)), .obj bp3 (.cells none 2 (AF p3)), .obj bp4 (.cells none 2 [Af rp4_0 p4.length]), .Ak rp4_0 117 (Ak AE p4)] F) (hc : BG (cfg.still 120) av = [.str p0, .str p1, .func (.func 130) [] [.ptr (some (bp2_10, 0))], .ptr (some (bp3, 0)), .ptr (some (bp4, 0))] := by kernel_rfl) : ∃ v h', BH cfg g h 120 av v h' ∧ ∃ (r'3 : Option Nat), v = .tuple [] ∧ HH g h' [.obj bp2_10 (.cells none 2 (AI p2_10)), .obj bp3 (.cells none 2 (AF u1)), .obj bp4 (.cells none 2 [Af r'3 u3.length]), .Ak r'3 117 (Ak AE u3)] F := by
 refine ES 22 [] hc ?_
 clear hc
 unfold B2 at hm
 refine bg 22 [(0, .str p0), (1, .str p1), (2, .func (.func 130) [] [.ptr (some (bp2_10, 0))]), (3, .ptr (some (bp3, 0))), (4, .ptr (some (bp4, 0)))] fun fr H => ?_
 refine AG 3 (Ae 9 _ _ H (fun fr => .of (BM (by kernel_rfl) (A.Eh 1 rfl (o := 0) (n := 13) ⟨Nat.le_of_ble_eq_true rfl, rfl⟩))) fun fr t H => ?_)
 obtain ⟨h1, e1, A⟩ := A.pu (.cells none 2 [.str ([] : List UInt8), .str ([] : List UInt8), Ab 0, Ai 0, Ai 0, Ai 0, Ai 0, Ai 0, .str ([] : List UInt8), .str ([] : List UInt8), Ai 0, Ai 0, Ai 0])
 refine BK 8 (.ptr (some (h.size, 0))) e1 H fun fr t H => ?_
 obtain ⟨h2, hx, A⟩ := A.s0 0 (AF p3) [_, _, _, _, _, _, _, _, _, _, _, _, _]
 refine Ch hx H fun fr t H => ?_
 refine BI id (AP (AG 2 ?_))
 obtain ⟨x1, hx, hm⟩ := bind_some hm
 obtain ⟨v1, h3, hr, rfl, A1⟩ := KV (av := [.ptr (some (h.size, 0)), .ptr (some (bp2_10, 0))]) hx (A.cut 2)
 replace A := A.g22 A1
 refine Ef 1 [] hr H fun fr t H => ?_
 refine CJ 3 id (Ae 12 _ _ H (fun fr => .of (BM (by kernel_rfl) (A.Eh 0 rfl (o := 0) (n := 13) ⟨Nat.le_of_ble_eq_true rfl, rfl⟩))) fun fr t H => ?_)
 obtain ⟨x2, hx, hm⟩ := bind_some hm
 obtain ⟨v1, h4, hr, rfl, A1⟩ := CS (av := [.agg (AF x1)]) hx (A.cut 0)
 replace A := A.DN A1
 refine Aw 13 hr H fun fr t H => ?_
 refine AK 1 [(14, .bool (x2 == 0))] H fun fr H => AZ 14 H hm (fun hb hm H => ?_) fun hb hm H => ?_
 ·refine AG 2 (Ae 15 _ _ H (fun fr => .of (BM (by kernel_rfl) (A.Eh 0 rfl (o := 0) (n := 13) ⟨Nat.le_of_ble_eq_true rfl, rfl⟩))) fun fr t H => ?_)
  obtain ⟨h5, hx, A⟩ := A.s2 0 (AF x1) [_, _, _, _, _, _, _, _, _, _, _, _, _]
  refine Ch hx H fun fr t H => ?_
  refine BI id (AS ?_)
  obtain ⟨rfl, rfl⟩ := BD hm
  refine ⟨.inl rfl, .tuple [], rH H, ?_⟩
  replace A := A.k4 1 2 3 4
  exact ⟨rp4_0, rfl, A⟩
 refine DI 7 id (Mi 16 3 0 A H fun fr t H => ?_)
 refine AM 3 [(19, .agg [.str p0, .str p1])] H fun fr H => ?_
 obtain ⟨h6, e2, A⟩ := A.pL 117 [.str p0, .str p1]
 refine BK 20 (Af (some h4.size) (([(⟨p0, p1⟩ : AB)] : List AB).length)) e2 H fun fr t H => ?_
 obtain ⟨hb, hm⟩ := A4 hm
 obtain ⟨r1, h7, hx, A1⟩ := HH.N7 Am (by decide) A 5 (xs := p4) (ys := ([(⟨p0, p1⟩ : AB)] : List AB)) rfl (Dy A 0 rfl (n := ([(⟨p0, p1⟩ : AB)] : List AB).length) (z := 2) rfl (by decide)) rfl rfl hb
 replace A : HH g h7 [.Ak (some h4.size) 117 ([.str p0, .str p1]), _, _, _, _, .Ak r1 117 (Ak AE (p4 ++ ([(⟨p0, p1⟩ : AB)] : List AB)))] F := A1
 replace A := A.k5 1 2 3 4 5
 refine Ae 21 _ _ H (fun fr => .of (IT (s := EF rp4_0 p4.length) (by kernel_rfl) hx)) fun fr t H => ?_
 obtain ⟨h8, hx, A1⟩ := A.st 3 rfl (o := 0) (new := [Af r1 ((p4 ++ ([(⟨p0, p1⟩ : AB)] : List AB)).length)]) (ds := [Af r1 ((p4 ++ ([(⟨p0, p1⟩ : AB)] : List AB)).length)]) (Nat.le_of_ble_eq_true rfl) rfl rfl
 replace A : HH g h8 [_, _, _, .obj bp4 (.cells none 2 [Af r1 ((p4 ++ ([(⟨p0, p1⟩ : AB)] : List AB)).length)]), _] F := A1
 refine JB hx H fun fr t H => ?_
 refine at_nil ?_
 obtain ⟨rfl, rfl⟩ := BD hm
 refine ⟨.inr rfl, .tuple [], rH H, ?_⟩
 replace A := A.k4 1 2 3 4
 exact ⟨r1, rfl, A⟩
def Ek (p0 : AL) (p1 : Int) : Option (AJ × (List AB)) :=
 D3 (decide (-9223372036854775808 ≤ p0.BQ ∧ p0.BQ ≤ 9223372036854775807)) <| (CM ([103, 105, 100] : List UInt8) (Lib.itoa p0.BQ) p0 (⟨([] : List UInt8), ([] : List UInt8), p0.Kind, p0.Mode, (0 : Int), (0 : Int), (0 : Int), (0 : Int), ([] : List UInt8), ([] : List UInt8), p0.Aa, p0.Ag, (2 : Int)⟩ : AJ) ([] : List AB)).bind fun (x1, x2) => (B0 ([103, 110, 97, 109, 101] : List UInt8) p0.AO p0 x1 x2).bind fun (x3, x4) => (B3 ([108, 105, 110, 107, 112, 97, 116, 104] : List UInt8) p0.AU p0 x3 x4).bind fun (x5, x6) => (ED p0.Time).bind fun (x7, x8) => (BW ([109, 116, 105, 109, 101] : List UInt8) x7 p0 x5 x6).bind fun (x9, x10) => (Bz ([112, 97, 116, 104] : List UInt8) p0.Name p0 x9 x10).bind fun (x11, x12) => D3 (decide (-9223372036854775808 ≤ p1 ∧ p1 ≤ 9223372036854775807)) <| (B1 ([115, 105, 122, 101] : List UInt8) (Lib.itoa p1) p1 x11 x12).bind fun (x13, x14) => D3 (decide (-9223372036854775808 ≤ p0.BP ∧ p0.BP ≤ 9223372036854775807)) <| (By ([117, 105, 100] : List UInt8) (Lib.itoa p0.BP) p0 x13 x14).bind fun (x15, x16) => (B2 ([117, 110, 97, 109, 101] : List UInt8) p0.AN p0 x15 x16).bind fun (x17, x18) => some (x17, x18)
theorem Ka {p0 p1 q0 q1} (hm : Ek p0 p1 = some (q0, q1)) (A : HH g h [] F) (hc : BG (cfg.still 66) av = [.agg (AI p0), Ai p1] := by kernel_rfl) : ∃ v h', BH cfg g h 66 av v h' ∧ ∃ (ES : Option Nat), v = .tuple [.agg (AF q0), Af ES q1.length] ∧ HH g h' [.Ak ES 117 (Ak AE q1)] F := by
 refine ES 70 [.cell 4 35, .tmp 5] hc ?_
 clear hc
 unfold Ek at hm
 refine bg 70 [(0, .agg (AI p0)), (1, Ai p1)] fun fr H => ?_
 refine AG 4 ?_
 obtain ⟨h1, e1, A⟩ := A.pu (.cells none 2 (AI p0))
 refine BK 2 (.ptr (some (h.size, 0))) e1 H fun fr t H => ?_
 obtain ⟨h2, e2, A⟩ := A.pu (.cells none 2 [Ai p1])
 refine BK 3 (.ptr (some (h1.size, 0))) e2 H fun fr t H => ?_
 obtain ⟨h3, e3, A⟩ := A.pu (.cells none 2 [.str ([] : List UInt8), .str ([] : List UInt8), Ab 0, Ai 0, Ai 0, Ai 0, Ai 0, Ai 0, .str ([] : List UInt8), .str ([] : List UInt8), Ai 0, Ai 0, Ai 0])
 refine BK 4 (.ptr (some (h2.size, 0))) e3 H fun fr t H => ?_
 refine Bg 1 [] 11 H fun fr H => AV 1 [] 12 2 2 A H fun fr t H => ?_
 refine AV 1 [] 14 2 3 A H fun fr t H => ?_
 refine AV 1 [] 16 2 8 A H fun fr t H => ?_
 refine AV 1 [] 18 2 9 A H fun fr t H => ?_
 obtain ⟨h4, e4, A⟩ := A.pu (.cells none 2 [.str ([] : List UInt8), .str ([] : List UInt8), Ab 0, Ai 0, Ai 0, Ai 0, Ai 0, Ai 0, .str ([] : List UInt8), .str ([] : List UInt8), Ai 0, Ai 0, Ai 0])
 refine JA 1 [(19, .agg [.str ([] : List UInt8), .str ([] : List UInt8), Ab p0.Kind, Ai p0.Mode, Ai (0 : Int), Ai (0 : Int), Ai (0 : Int), Ai (0 : Int), .str ([] : List UInt8), .str ([] : List UInt8), Ai p0.Aa, Ai p0.Ag, Ai (2 : Int)])] 6 (.ptr (some (h3.size, 0))) e4 H fun fr t H => ?_
 obtain ⟨h5, hx, A1⟩ := A.st 0 rfl (o := 0) (new := [.str ([] : List UInt8), .str ([] : List UInt8), Ab p0.Kind, Ai p0.Mode, Ai 0, Ai 0, Ai 0, Ai 0, .str ([] : List UInt8), .str ([] : List UInt8), Ai p0.Aa, Ai p0.Ag, Ai 2]) (ds := [.str ([] : List UInt8), .str ([] : List UInt8), Ab p0.Kind, Ai p0.Mode, Ai 0, Ai 0, Ai 0, Ai 0, .str ([] : List UInt8), .str ([] : List UInt8), Ai p0.Aa, Ai p0.Ag, Ai 2]) (Nat.le_of_ble_eq_true rfl) rfl rfl
 replace A : HH g h5 [.obj h3.size (.cells none 2 [.str ([] : List UInt8), .str ([] : List UInt8), Ab p0.Kind, Ai p0.Mode, Ai 0, Ai 0, Ai 0, Ai 0, .str ([] : List UInt8), .str ([] : List UInt8), Ai p0.Aa, Ai p0.Ag, Ai 2]), .obj h2.size (.cells none 2 [.str ([] : List UInt8), .str ([] : List UInt8), Ab 0, Ai 0, Ai 0, Ai 0, Ai 0, Ai 0, .str ([] : List UInt8), .str ([] : List UInt8), Ai 0, Ai 0, Ai 0]), .obj h1.size (.cells none 2 [Ai p1]), .obj h.size (.cells none 2 (AI p0))] F := A1
 refine Ch hx H fun fr t H => ?_
 refine CJ 1 id ?_
 obtain ⟨h6, e5, A⟩ := A.pu (.cells none 2 [.slice none 0])
 refine BK 7 (.ptr (some (h5.size, 0))) e5 H fun fr t H => ?_
 refine CJ 2 id (Bg 2 [(8, .func (.func 120) [] [.ptr (some (h3.size, 0)), .ptr (some (h5.size, 0))])] 6 H fun fr H => AV 2 [(21, .func (.func 120) [] [.ptr (some (h3.size, 0)), .ptr (some (h5.size, 0))])] 23 4 5 A H fun fr t H => ?_)
 obtain ⟨hb, hm⟩ := A4 hm
 refine Ae 24 (.str (Lib.itoa p0.BQ)) h6 H (fun fr => Steps.call (by kernel_rfl) (J7 (C := cfg) (f := 121) (by kernel_rfl) (l := exts) rfl (by kernel_rfl) hb)) fun fr t H => ?_
 replace A : HH g h6 [.Ak none 117 (Ak AE ([] : List AB)), .obj h5.size (.cells none 2 [Af none (([] : List AB).length)]), _, _, _, _] F := A.T9 117
 replace A := A.k6 5 2 1 0 3 4
 obtain ⟨⟨x1, x2⟩, hx, hm⟩ := bind_some hm
 obtain ⟨v1, h7, hr, r1, rfl, A1⟩ := Hx (av := [.str ([103, 105, 100] : List UInt8), .str (Lib.itoa p0.BQ), .func (.func 122) [] [.ptr (some (h.size, 0))], .ptr (some (h3.size, 0)), .ptr (some (h5.size, 0))]) hx (A.cut 4)
 replace A := A.Xn A1
 refine Ef 1 [] hr H fun fr t H => ?_
 refine CJ 5 id (AV 2 [(27, .func (.func 120) [] [.ptr (some (h3.size, 0)), .ptr (some (h5.size, 0))])] 29 0 7 A H fun fr t H => ?_)
 obtain ⟨⟨x3, x4⟩, hx, hm⟩ := bind_some hm
 obtain ⟨v1, h8, hr, r2, rfl, A1⟩ := HE (av := [.str ([103, 110, 97, 109, 101] : List UInt8), .str p0.AO, .func (.func 123) [] [.ptr (some (h.size, 0))], .ptr (some (h3.size, 0)), .ptr (some (h5.size, 0))]) hx (A.cut 4)
 replace A := A.Xn A1
 refine Ef 1 [] hr H fun fr t H => ?_
 refine CJ 5 id (AV 2 [(32, .func (.func 120) [] [.ptr (some (h3.size, 0)), .ptr (some (h5.size, 0))])] 34 0 1 A H fun fr t H => ?_)
 obtain ⟨⟨x5, x6⟩, hx, hm⟩ := bind_some hm
 obtain ⟨v1, h9, hr, r3, rfl, A1⟩ := HV (av := [.str ([108, 105, 110, 107, 112, 97, 116, 104] : List UInt8), .str p0.AU, .func (.func 124) [] [.ptr (some (h.size, 0))], .ptr (some (h3.size, 0)), .ptr (some (h5.size, 0))]) hx (A.cut 4)
 replace A := A.Xn A1
 refine Ef 1 [] hr H fun fr t H => ?_
 refine CJ 8 id (BC 1 [] 39 _ _ H (fun fr => .of (BM (by kernel_rfl) (A.Eh 0 rfl (o := 10) (n := 2) ⟨Nat.le_of_ble_eq_true rfl, rfl⟩))) fun fr t H => ?_)
 obtain ⟨⟨x7, x8⟩, hx, hm⟩ := bind_some hm
 obtain ⟨v1, h10, hr, rfl, A1⟩ := Oj (av := [.agg [Ai p0.Time.B6, Ai p0.Time.BA]]) hx (A.cut 0)
 replace A := A.DN A1
 refine Aw 40 hr H fun fr t H => ?_
 refine Bg 5 [(9, .str x7)] 4 H fun fr H => ?_
 obtain ⟨⟨x9, x10⟩, hx, hm⟩ := bind_some hm
 obtain ⟨v1, h11, hr, r4, rfl, A1⟩ := G6 (av := [.str ([109, 116, 105, 109, 101] : List UInt8), .str x7, .func (.func 126) [] [.ptr (some (h.size, 0))], .ptr (some (h3.size, 0)), .ptr (some (h5.size, 0))]) hx (A.cut 4)
 replace A := A.Xn A1
 refine Ef 3 [] hr H fun fr t H => ?_
 refine CJ 5 id (AV 2 [(47, .func (.func 120) [] [.ptr (some (h3.size, 0)), .ptr (some (h5.size, 0))])] 49 0 0 A H fun fr t H => ?_)
 obtain ⟨⟨x11, x12⟩, hx, hm⟩ := bind_some hm
 obtain ⟨v1, h12, hr, r5, rfl, A1⟩ := G9 (av := [.str ([112, 97, 116, 104] : List UInt8), .str p0.Name, .func (.func 127) [] [.ptr (some (h.size, 0))], .ptr (some (h3.size, 0)), .ptr (some (h5.size, 0))]) hx (A.cut 4)
 replace A := A.Xn A1
 refine Ef 1 [] hr H fun fr t H => ?_
 refine CJ 5 id (AV 1 [(52, .func (.func 120) [] [.ptr (some (h3.size, 0)), .ptr (some (h5.size, 0))])] 53 5 0 A H fun fr t H => ?_)
 obtain ⟨hb, hm⟩ := A4 hm
 refine Ae 54 (.str (Lib.itoa p1)) h12 H (fun fr => Steps.call (by kernel_rfl) (J7 (C := cfg) (f := 121) (by kernel_rfl) (l := exts) rfl (by kernel_rfl) hb)) fun fr t H => ?_
 replace A := A.k6 5 1 2 3 0 4
 obtain ⟨⟨x13, x14⟩, hx, hm⟩ := bind_some hm
 obtain ⟨v1, h13, hr, r6, rfl, A1⟩ := HY (av := [.str ([115, 105, 122, 101] : List UInt8), .str (Lib.itoa p1), .func (.func 128) [] [.ptr (some (h1.size, 0))], .ptr (some (h3.size, 0)), .ptr (some (h5.size, 0))]) hx (A.cut 4)
 replace A := A.Xn A1
 refine Ef 1 [] hr H fun fr t H => ?_
 refine CJ 6 id (AV 2 [(57, .func (.func 120) [] [.ptr (some (h3.size, 0)), .ptr (some (h5.size, 0))])] 59 4 4 A H fun fr t H => ?_)
 obtain ⟨hb, hm⟩ := A4 hm
 refine Ae 60 (.str (Lib.itoa p0.BP)) h13 H (fun fr => Steps.call (by kernel_rfl) (J7 (C := cfg) (f := 121) (by kernel_rfl) (l := exts) rfl (by kernel_rfl) hb)) fun fr t H => ?_
 replace A := A.k6 4 1 2 3 0 5
 obtain ⟨⟨x15, x16⟩, hx, hm⟩ := bind_some hm
 obtain ⟨v1, h14, hr, r7, rfl, A1⟩ := HJ (av := [.str ([117, 105, 100] : List UInt8), .str (Lib.itoa p0.BP), .func (.func 129) [] [.ptr (some (h.size, 0))], .ptr (some (h3.size, 0)), .ptr (some (h5.size, 0))]) hx (A.cut 4)
 replace A := A.Xn A1
 refine Ef 1 [] hr H fun fr t H => ?_
 refine CJ 5 id (AV 2 [(63, .func (.func 120) [] [.ptr (some (h3.size, 0)), .ptr (some (h5.size, 0))])] 65 0 6 A H fun fr t H => ?_)
 obtain ⟨⟨x17, x18⟩, hx, hm⟩ := bind_some hm
 obtain ⟨v1, h15, hr, r8, rfl, A1⟩ := HC (av := [.str ([117, 110, 97, 109, 101] : List UInt8), .str p0.AN, .func (.func 130) [] [.ptr (some (h.size, 0))], .ptr (some (h3.size, 0)), .ptr (some (h5.size, 0))]) hx (A.cut 4)
 replace A := A.Xn A1
 refine Ef 1 [] hr H fun fr t H => ?_
 refine BI id (AP (RD 13 4 [(0, []), (1, []), (2, [1]), (3, [])] ?_))
 refine Gq 68 (.agg (AF x17)) h15 [(0, h3.size)] (g.Cl) H (fun fr => .of (BM (by kernel_rfl) (A.la 1 0 13))) (fun fr H => ?_)
 refine Gq 69 (Af r8 x18.length) h15 [(1, h5.size), (0, h3.size)] (g.Cl) H (fun fr => .of (O0 (by kernel_rfl) (A.l1 2 0))) (fun fr H => ?_)
 replace A := A.k6 5 0 1 2 3 4
 have A1 := A.Lk 1 (pr := [h5.size]) (.cons 2 rfl (by simp [Ck.ids]) .nil)
 obtain ⟨h16, hx, A1⟩ := A1.st 0 rfl (o := 0) (new := (AF x17)) (ds := (AF x17)) (Nat.le_of_ble_eq_true rfl) rfl rfl
 replace A := A.aw A1
 refine Rv (.tuple []) h16 [(1, h5.size), (0, h3.size)] (h5.size :: g.Cl) H (fun fr => .of (RV (by kernel_rfl) (NY hx rfl))) (fun fr H => ?_)
 refine AK 1 [(5, Af r8 x18.length)] H fun fr H => AS ?_
 obtain ⟨rfl, rfl⟩ := BD hm
 refine ⟨.inl rfl, .tuple [.agg (AF x17), Af r8 x18.length], CW (.cell (rT H) (CL (by kernel_rfl) (by kernel_rfl) (A.la 0 0 13)) (.tmp (rT H) .nil)), ?_⟩
 replace A := A.k1 4
 exact ⟨r8, rfl, A⟩
def Di (p0 : AL) (p1 : Int) : Option (AJ × Int) :=
 (EL p0 p1).bind fun x1 => Ad (x1 != 0) (some ((⟨([] : List UInt8), ([] : List UInt8), (0 : Int), (0 : Int), (0 : Int), (0 : Int), (0 : Int), (0 : Int), ([] : List UInt8), ([] : List UInt8), (0 : Int), (0 : Int), (0 : Int)⟩ : AJ), x1)) ((Ek p0 p1).bind fun (x2, x3) => some (x2, (0 : Int)))
theorem Kh {p0 p1 q0 q1} (hm : Di p0 p1 = some (q0, q1)) (A : HH g h [] F) (hc : BG (cfg.still 26) av = [.agg (AI p0), Ai p1] := by kernel_rfl) : ∃ v h', BH cfg g h 26 av v h' ∧ v = .tuple [.agg (AF q0), Ai q1] ∧ HH g h' [] F := by
 refine ES 23 [.cell 4 35, .tmp 5] hc ?_
 clear hc
 unfold Di at hm
 refine bg 23 [(0, .agg (AI p0)), (1, Ai p1)] fun fr H => ?_
 refine AG 3 ?_
 obtain ⟨h1, e1, A⟩ := A.pu (.cells none 2 (AI p0))
 refine BK 2 (.ptr (some (h.size, 0))) e1 H fun fr t H => ?_
 obtain ⟨h2, e2, A⟩ := A.pu (.cells none 2 [.str ([] : List UInt8), .str ([] : List UInt8), Ab 0, Ai 0, Ai 0, Ai 0, Ai 0, Ai 0, .str ([] : List UInt8), .str ([] : List UInt8), Ai 0, Ai 0, Ai 0])
 refine BK 4 (.ptr (some (h1.size, 0))) e2 H fun fr t H => ?_
 refine AK 1 [] H fun fr H => AP (AG 4 (Ae 9 _ _ H (fun fr => .of (BM (by kernel_rfl) (A.Eh 1 rfl (o := 0) (n := 14) ⟨Nat.le_of_ble_eq_true rfl, rfl⟩))) fun fr t H => ?_))
 obtain ⟨x1, hx, hm⟩ := bind_some hm
 obtain ⟨v1, h3, hr, rfl, A1⟩ := Jn (av := [.agg (AI p0), Ai p1]) hx (A.cut 0)
 replace A : HH g h3 [.obj h1.size (.cells none 2 [.str ([] : List UInt8), .str ([] : List UInt8), Ab (0 : Int), Ai (0 : Int), Ai (0 : Int), Ai (0 : Int), Ai (0 : Int), Ai (0 : Int), .str ([] : List UInt8), .str ([] : List UInt8), Ai (0 : Int), Ai (0 : Int), Ai (0 : Int)]), .obj h.size (.cells none 2 (AI p0))] F := A.Fp (n := 0) A1
 refine A6 1 [] 11 hr H fun fr t H => ?_
 refine Bg 1 [(6, Ai x1)] 2 H fun fr H => AK 2 [(13, .bool (x1 != 0))] H fun fr H => AZ 13 H hm (fun hb hm H => ?_) fun hb hm H => ?_
 ·refine AG 4 ?_
  obtain ⟨h4, hx, A⟩ := A.s0 0 [.str ([] : List UInt8), .str ([] : List UInt8), Ab 0, Ai 0, Ai 0, Ai 0, Ai 0, Ai 0, .str ([] : List UInt8), .str ([] : List UInt8), Ai 0, Ai 0, Ai 0] [_, _, _, _, _, _, _, _, _, _, _, _, _]
  refine Es 2 [(15, Ai x1)] hx H fun fr t H => ?_
  refine AK 1 [(5, Ai x1)] H fun fr H => AS ?_
  obtain ⟨rfl, rfl⟩ := BD hm
  refine ⟨.inl rfl, .tuple [.agg [.str ([] : List UInt8), .str ([] : List UInt8), Ab 0, Ai 0, Ai 0, Ai 0, Ai 0, Ai 0, .str ([] : List UInt8), .str ([] : List UInt8), Ai 0, Ai 0, Ai 0], Ai x1], CW (.cell (rT H) (CL (by kernel_rfl) (by kernel_rfl) (A.la 0 0 13)) (.tmp (rT H) .nil)), ?_⟩
  replace A := A.d0
  exact ⟨rfl, A⟩
 refine Br 9 id (Ae 17 _ _ H (fun fr => .of (BM (by kernel_rfl) (A.Eh 1 rfl (o := 0) (n := 14) ⟨Nat.le_of_ble_eq_true rfl, rfl⟩))) fun fr t H => ?_)
 obtain ⟨⟨x2, x3⟩, hx, hm⟩ := bind_some hm
 obtain ⟨v1, h5, hr, rqw3, rfl, A1⟩ := Ka (av := [.agg (AI p0), Ai p1]) hx (A.cut 0)
 replace A := A.Yc A1
 refine A6 1 [] 19 hr H fun fr t H => ?_
 obtain ⟨h6, e3, A⟩ := A.pu (.cells none 2 [.str ([] : List UInt8), .str ([] : List UInt8), Ab 0, Ai 0, Ai 0, Ai 0, Ai 0, Ai 0, .str ([] : List UInt8), .str ([] : List UInt8), Ai 0, Ai 0, Ai 0])
 refine JA 3 [(20, .agg (AF x2)), (21, Af rqw3 x3.length)] 7 (.ptr (some (h5.size, 0))) e3 H fun fr t H => ?_
 obtain ⟨h7, hx, A⟩ := A.s0 0 (AF x2) [_, _, _, _, _, _, _, _, _, _, _, _, _]
 refine Ch hx H fun fr t H => ?_
 refine Bg 1 [] 3 H fun fr H => Ae 22 _ _ H (fun fr => .of (BM (by kernel_rfl) (A.Eh 0 rfl (o := 0) (n := 13) ⟨Nat.le_of_ble_eq_true rfl, rfl⟩))) fun fr t H => ?_
 obtain ⟨h8, hx, A⟩ := A.s2 0 (AF x2) [_, _, _, _, _, _, _, _, _, _, _, _, _]
 refine Ch hx H fun fr t H => ?_
 refine AK 1 [(5, Ai 0)] H fun fr H => AS ?_
 obtain ⟨rfl, rfl⟩ := BD hm
 refine ⟨.inl rfl, .tuple [.agg (AF x2), Ai 0], CW (.cell (rT H) (CL (by kernel_rfl) (by kernel_rfl) (A.la 2 0 13)) (.tmp (rT H) .nil)), ?_⟩
 replace A := A.d0
 exact ⟨rfl, A⟩
def C0 (p0 : AL) (p1 : Int) : Option ((List AB) × Int) :=
 (EL p0 p1).bind fun x1 => Ad (x1 != 0) (some (([] : List AB), x1)) ((Ek p0 p1).bind fun (x2, x3) => D3 (R4 32 (x3.length + p0.Extra.length)) <| D3 (LX ((x3 ++ p0.Extra).map fun x => ((x.Key, x.Value) : IF))) <| D3 (decide ((x3 ++ p0.Extra).length ≤ 1099511627776)) <| some (((E7 ((x3 ++ p0.Extra).map fun x => ((x.Key, x.Value) : IF))).map fun p => (⟨p.1, p.2⟩ : AB)), (0 : Int)))
theorem JH {p0 p1 q0 q1} (hm : C0 p0 p1 = some (q0, q1)) (A : HH g h [] F) (hc : BG (cfg.still 27) av = [.agg (AI p0), Ai p1] := by kernel_rfl) : ∃ v h', BH cfg g h 27 av v h' ∧ ∃ (rq0 : Option Nat), v = .tuple [Af rq0 q0.length, Ai q1] ∧ HH g h' [.Ak rq0 117 (Ak AE q0)] F := by
 refine ES 28 [.tmp 4, .tmp 5] hc ?_
 clear hc
 unfold C0 at hm
 refine bg 28 [(0, .agg (AI p0)), (1, Ai p1)] fun fr H => ?_
 refine AG 3 ?_
 obtain ⟨h1, e1, A⟩ := A.pu (.cells none 2 (AI p0))
 refine BK 2 (.ptr (some (h.size, 0))) e1 H fun fr t H => ?_
 refine AK 2 [] H fun fr H => AP (AG 4 (Ae 9 _ _ H (fun fr => .of (BM (by kernel_rfl) (A.Eh 0 rfl (o := 0) (n := 14) ⟨Nat.le_of_ble_eq_true rfl, rfl⟩))) fun fr t H => ?_))
 obtain ⟨x1, hx, hm⟩ := bind_some hm
 obtain ⟨v1, h2, hr, rfl, A1⟩ := Jn (av := [.agg (AI p0), Ai p1]) hx (A.cut 0)
 replace A : HH g h2 [.obj h.size (.cells none 2 (AI p0))] F := A.Fp (n := 0) A1
 refine A6 1 [] 11 hr H fun fr t H => ?_
 refine Bg 1 [(6, Ai x1)] 2 H fun fr H => AK 2 [(13, .bool (x1 != 0))] H fun fr H => AZ 13 H hm (fun hb hm H => ?_) fun hb hm H => ?_
 ·refine AG 3 (AK 3 [(4, .slice none 0), (5, Ai x1)] H fun fr H => AS ?_)
  obtain ⟨rfl, rfl⟩ := BD hm
  refine ⟨.inl rfl, .tuple [.slice none 0, Ai x1], rH H, ?_⟩
  replace A : HH g h2 [.Ak none 117 (Ak AE ([] : List AB)), _] F := A.T9 117
  replace A := A.d1
  exact ⟨none, rfl, A⟩
 refine Br 9 id (Ae 16 _ _ H (fun fr => .of (BM (by kernel_rfl) (A.Eh 0 rfl (o := 0) (n := 14) ⟨Nat.le_of_ble_eq_true rfl, rfl⟩))) fun fr t H => ?_)
 obtain ⟨⟨x2, x3⟩, hx, hm⟩ := bind_some hm
 obtain ⟨v1, h3, hr, rqw3, rfl, A1⟩ := Ka (av := [.agg (AI p0), Ai p1]) hx (A.cut 0)
 replace A := A.Yc A1
 refine A6 1 [] 18 hr H fun fr t H => ?_
 obtain ⟨h4, e2, A⟩ := A.pu (.cells none 2 [.str ([] : List UInt8), .str ([] : List UInt8), Ab 0, Ai 0, Ai 0, Ai 0, Ai 0, Ai 0, .str ([] : List UInt8), .str ([] : List UInt8), Ai 0, Ai 0, Ai 0])
 refine JA 3 [(19, .agg (AF x2)), (20, Af rqw3 x3.length)] 7 (.ptr (some (h3.size, 0))) e2 H fun fr t H => ?_
 obtain ⟨h5, hx, A⟩ := A.s0 0 (AF x2) [_, _, _, _, _, _, _, _, _, _, _, _, _]
 refine Ch hx H fun fr t H => ?_
 refine Bg 1 [(8, Af rqw3 x3.length)] 5 H fun fr H => AV 2 [(21, Af rqw3 x3.length)] 23 2 12 A H fun fr t H => ?_
 obtain ⟨hb, hm⟩ := A4 hm
 obtain ⟨r1, h6, hx, A1⟩ := HH.N7 Am (by decide) A 1 (xs := x3) (ys := p0.Extra) rfl (ZD Am _ p0.Extra) (Am.BG _) rfl hb
 replace A : HH g h6 [_, .Ak r1 117 (Ak AE (x3 ++ p0.Extra)), _] F := A1
 refine Ae 24 _ _ H (fun fr => .of (IT (s := EF rqw3 x3.length) (by kernel_rfl) hx)) fun fr t H => ?_
 refine Bd 1 [(8, Af r1 ((x3 ++ p0.Extra).length))] H fun fr H => CJ 2 id ?_
 replace A := A.k3 1 0 2
 have A1 := A.cut 1
 obtain ⟨hb, hm⟩ := A4 hm
 obtain ⟨hb2, hm⟩ := A4 hm
 obtain ⟨h7, hr, A1⟩ := HH.Zi (C := cfg) (f := 67) (c := 68) (t := 117) (e := AE) (xs := (x3 ++ p0.Extra)) (fw := fun x => ((x.Key, x.Value) : IF)) (bw := fun p => (⟨p.1, p.2⟩ : AB)) (fun _ => rfl) (fun _ => rfl) A1 (by kernel_rfl) (l := exts) rfl (by kernel_rfl) hb hb2
 have hl1 : (((E7 ((x3 ++ p0.Extra).map fun x => ((x.Key, x.Value) : IF))).map fun p => (⟨p.1, p.2⟩ : AB))).length = (x3 ++ p0.Extra).length := PY _ _ _
 have el : Af r1 (x3 ++ p0.Extra).length = Af r1 (((E7 ((x3 ++ p0.Extra).map fun x => ((x.Key, x.Value) : IF))).map fun p => (⟨p.1, p.2⟩ : AB))).length := congrArg _ (PY _ _ _).symm
 rw [el] at hr
 try rw [el] at H
 replace A : HH g h7 [.Ak r1 117 (Ak AE ((E7 ((x3 ++ p0.Extra).map fun x => ((x.Key, x.Value) : IF))).map fun p => (⟨p.1, p.2⟩ : AB))), _, _] F := A.Fp (n := 1) A1
 refine Ef 1 [] hr H fun fr t H => ?_
 refine CJ 3 id (AK 3 [(4, Af r1 (((E7 ((x3 ++ p0.Extra).map fun x => ((x.Key, x.Value) : IF))).map fun p => (⟨p.1, p.2⟩ : AB)).length)), (5, Ai 0)] H fun fr H => AS ?_)
 obtain ⟨rfl, rfl⟩ := BD hm
 refine ⟨.inl rfl, .tuple [Af r1 (((E7 ((x3 ++ p0.Extra).map fun x => ((x.Key, x.Value) : IF))).map fun p => (⟨p.1, p.2⟩ : AB)).length), Ai 0], rH H, ?_⟩
 replace A := A.d1
 exact ⟨r1, rfl, A⟩
def CP : Option (Bool) :=
 (Di (⟨([97] : List UInt8), ([] : List UInt8), (48 : Int), (0 : Int), (0 : Int), (0 : Int), ([] : List UInt8), ([] : List UInt8), (0 : Int), (0 : Int), (⟨(1 : Int), (2 : Int)⟩ : Ac), ([] : List AB), ([] : List UInt8)⟩ : AL) (0 : Int)).bind fun (x1, x2) => (C0 (⟨([97] : List UInt8), ([] : List UInt8), (48 : Int), (0 : Int), (0 : Int), (0 : Int), ([] : List UInt8), ([] : List UInt8), (0 : Int), (0 : Int), (⟨(1 : Int), (2 : Int)⟩ : Ac), ([] : List AB), ([] : List UInt8)⟩ : AL) (0 : Int)).bind fun (x3, x4) => (Ad ((((x2 == 0) && (x1.Time == 0)) && (x4 == 0)) && ((x3.length : Int) == 1)) ((IG x3 (0 : Int)).bind fun x6 => (Wf cfg.P 117 [.str x6.Key, .str x6.Value] [.str ([109, 116, 105, 109, 101] : List UInt8), .str ([49, 46, 48, 48, 48, 48, 48, 48, 48, 48, 50] : List UInt8)]).bind fun x7 => some x7) (some false) : Option (Bool)).bind fun x5 => some x5
theorem EN {q0} (hm : CP = some q0) (A : HH g h [] F) (hc : BG (cfg.still 25) av = [] := by kernel_rfl) : ∃ v h', BH cfg g h 25 av v h' ∧ v = .bool q0 ∧ HH g h' [] F := by
 refine ES 41 [.tmp 0] hc ?_
 clear hc
 unfold CP at hm
 refine bg 41 [] fun fr H => ?_
 refine AG 1 (Bg 1 [] 4 H fun fr H => ?_)
 obtain ⟨h1, e1, A⟩ := A.pu (.cells none 2 [.str ([] : List UInt8), .str ([] : List UInt8), Ab 0, Ai 0, Ai 0, Ai 0, .str ([] : List UInt8), .str ([] : List UInt8), Ai 0, Ai 0, Ai 0, Ai 0, .slice none 0, .str ([] : List UInt8)])
 refine JA 2 [(7, .agg [.str ([97] : List UInt8), .str ([] : List UInt8), Ab (48 : Int), Ai (0 : Int), Ai (0 : Int), Ai (0 : Int), .str ([] : List UInt8), .str ([] : List UInt8), Ai (0 : Int), Ai (0 : Int), Ai (1 : Int), Ai (2 : Int), .slice none 0, .str ([] : List UInt8)])] 1 (.ptr (some (h.size, 0))) e1 H fun fr t H => ?_
 obtain ⟨h2, hx, A⟩ := A.s0 0 [.str ([97] : List UInt8), .str ([] : List UInt8), Ab 48, Ai 0, Ai 0, Ai 0, .str ([] : List UInt8), .str ([] : List UInt8), Ai 0, Ai 0, Ai 1, Ai 2, .slice none 0, .str ([] : List UInt8)] [_, _, _, _, _, _, _, _, _, _, _, _, _, _]
 refine Ch hx H fun fr t H => ?_
 refine CJ 8 id (Ae 9 _ _ H (fun fr => .of (BM (by kernel_rfl) (A.Eh 0 rfl (o := 0) (n := 14) ⟨Nat.le_of_ble_eq_true rfl, rfl⟩))) fun fr t H => ?_)
 obtain ⟨⟨x1, x2⟩, hx, hm⟩ := bind_some hm
 obtain ⟨v1, h3, hr, rfl, A1⟩ := Kh (av := [.agg [.str ([97] : List UInt8), .str ([] : List UInt8), Ab 48, Ai 0, Ai 0, Ai 0, .str ([] : List UInt8), .str ([] : List UInt8), Ai 0, Ai 0, Ai 1, Ai 2, .slice none 0, .str ([] : List UInt8)], Ai 0]) hx (A.cut 0)
 replace A := A.DN A1
 refine Aw 10 hr H fun fr t H => ?_
 obtain ⟨h4, e2, A⟩ := A.pu (.cells none 2 [.str ([] : List UInt8), .str ([] : List UInt8), Ab 0, Ai 0, Ai 0, Ai 0, Ai 0, Ai 0, .str ([] : List UInt8), .str ([] : List UInt8), Ai 0, Ai 0, Ai 0])
 refine JA 3 [(11, .agg (AF x1)), (12, Ai x2)] 2 (.ptr (some (h3.size, 0))) e2 H fun fr t H => ?_
 obtain ⟨h5, hx, A⟩ := A.s0 0 (AF x1) [_, _, _, _, _, _, _, _, _, _, _, _, _]
 refine Ch hx H fun fr t H => ?_
 refine Bg 1 [(3, Ai x2)] 7 H fun fr H => Ae 14 _ _ H (fun fr => .of (BM (by kernel_rfl) (A.Eh 1 rfl (o := 0) (n := 14) ⟨Nat.le_of_ble_eq_true rfl, rfl⟩))) fun fr t H => ?_
 obtain ⟨⟨x3, x4⟩, hx, hm⟩ := bind_some hm
 obtain ⟨v1, h6, hr, rqw3, rfl, A1⟩ := JH (av := [.agg [.str ([97] : List UInt8), .str ([] : List UInt8), Ab 48, Ai 0, Ai 0, Ai 0, .str ([] : List UInt8), .str ([] : List UInt8), Ai 0, Ai 0, Ai 1, Ai 2, .slice none 0, .str ([] : List UInt8)], Ai 0]) hx (A.cut 0)
 replace A := A.Yc A1
 refine Aw 15 hr H fun fr t H => ?_
 refine Bg 5 [(4, Af rqw3 x3.length), (5, Ai x4)] 24 H fun fr H => AM 3 [(20, .bool (x2 == 0))] H fun fr H => A5 4 (fun fr' h' => h6 = h' ∧ Has fr' 41 [(4, Af rqw3 x3.length), (5, Ai x4), (24, .bool ((x2 == 0) && (x1.Time == 0)))]) ?_ ?_
 ·cases hb : (x2 == 0 : Bool) with
  | true =>
   replace H := H.kn 20 hb
   refine AV 1 [] 22 1 7 A H fun fr t H => ?_
   exact AM 2 [(24, .bool (x1.Time == 0))] H fun fr H => Ao H hb
  | false =>
   replace H := H.kn 20 hb
   exact AM 4 [(24, .bool false)] H fun fr H => Ao H hb
 intro t fr h' hK
 obtain ⟨e, H⟩ := hK
 subst e
 refine AM 1 [(25, .bool ((x2 == 0) && (x1.Time == 0)))] H fun fr H => A5 3 (fun fr' h' => h6 = h' ∧ Has fr' 41 [(4, Af rqw3 x3.length), (28, .bool (((x2 == 0) && (x1.Time == 0)) && (x4 == 0)))]) ?_ ?_
 ·cases hb : ((x2 == 0) && (x1.Time == 0) : Bool) with
  | true =>
   replace H := H.kn 25 hb
   exact AM 3 [(28, .bool (x4 == 0))] H fun fr H => Ao H hb
  | false =>
   replace H := H.kn 25 hb
   exact AM 3 [(28, .bool false)] H fun fr H => Ao H hb
 intro t fr h' hK
 obtain ⟨e, H⟩ := hK
 subst e
 refine AM 1 [(29, .bool (((x2 == 0) && (x1.Time == 0)) && (x4 == 0)))] H fun fr H => A5 4 (fun fr' h' => h6 = h' ∧ Has fr' 41 [(4, Af rqw3 x3.length), (33, .bool ((((x2 == 0) && (x1.Time == 0)) && (x4 == 0)) && ((x3.length : Int) == 1)))]) ?_ ?_
 ·cases hb : (((x2 == 0) && (x1.Time == 0)) && (x4 == 0) : Bool) with
  | true =>
   replace H := H.kn 29 hb
   exact AM 4 [(33, .bool ((x3.length : Int) == 1))] H fun fr H => Ao H hb
  | false =>
   replace H := H.kn 29 hb
   exact AM 4 [(33, .bool false)] H fun fr H => Ao H hb
 intro t fr h' hK
 obtain ⟨e, H⟩ := hK
 subst e
 refine AM 1 [(34, .bool ((((x2 == 0) && (x1.Time == 0)) && (x4 == 0)) && ((x3.length : Int) == 1)))] H fun fr H => ?_
 obtain ⟨x5, ho, hm⟩ := bind_some hm
 refine A5 6 (fun fr' h' => Has fr' 41 [(40, .bool x5)] ∧ HH g h' [.obj h3.size (.cells none 2 (AF x1)), .obj h.size (.cells none 2 [.str ([97] : List UInt8), .str ([] : List UInt8), Ab 48, Ai 0, Ai 0, Ai 0, .str ([] : List UInt8), .str ([] : List UInt8), Ai 0, Ai 0, Ai 1, Ai 2, .slice none 0, .str ([] : List UInt8)])] F) ?_ ?_
 ·rcases Ax ho with ⟨hb, hm⟩ | ⟨hb, hm⟩
  ·replace H := H.kn 34 hb
   obtain ⟨x6, hx, hm⟩ := bind_some hm
   obtain ⟨i1, er1, _, hx, hq1⟩ := HH.XQ Am (by decide) A 0 (xs := x3) rfl hx
   refine BC 1 [] 36 (.ptr (some (i1, (0 : Int).toNat * 2))) h6 H (fun fr => .of (LP (s := EF rqw3 x3.length) (by kernel_rfl) hx)) fun fr t H => ?_
   refine Ae 37 _ _ H (fun fr => .of (BM (by kernel_rfl) (QQ Am (HH.row A 0 rfl er1) hq1 0 2 (Nat.le_of_ble_eq_true rfl)))) fun fr t H => ?_
   refine AM 1 [(38, .agg [.str ([109, 116, 105, 109, 101] : List UInt8), .str ([49, 46, 48, 48, 48, 48, 48, 48, 48, 48, 50] : List UInt8)])] H fun fr H => ?_
   obtain ⟨x7, hx, hm⟩ := bind_some hm
   refine Ae 39 (.bool x7) h6 H (fun fr => .of (X8 (by kernel_rfl) hx)) fun fr t H => ?_
   refine AM 1 [(40, .bool x7)] H fun fr H => ?_
   obtain rfl := An hm
   replace A := A.k2 1 2
   exact at_nil ⟨H.ls, A⟩
  replace H := H.kn 34 hb
  refine AM 6 [(40, .bool false)] H fun fr H => ?_
  obtain rfl := An hm
  replace A := A.k2 1 2
  exact at_nil ⟨H.ls, A⟩
 clear A
 intro t fr h7 hK
 obtain ⟨H, A⟩ := hK
 refine AK 1 [(0, .bool x5)] H fun fr H => AS ?_
 obtain rfl := An hm
 refine ⟨.inl rfl, .bool x5, rH H, ?_⟩
 replace A := A.d0
 exact ⟨rfl, A⟩
def Ff (p0 : List UInt8) (s : Int × Int × Int) : Option ((Int × Int × Int) ⊕ ((Int × Int))) :=
 match s with
 | (x1, x2, x3) => Ad (decide (x3 < (p0.length : Int))) ((LN p0 x3).bind fun x6 => (Ad ((decide (x3 ≥ 148)) && (decide (x3 < 156))) (some (32 : Int)) (some x6) : Option ((Int))).bind fun x7 => some (.inl (IntKind.i64.wrap (x1 + (IntKind.i64.wrap x7)), IntKind.i64.wrap (x2 + (IntKind.i64.wrap (IntKind.i8.wrap x7))), IntKind.i64.wrap (x3 + 1)))) (some (.inr (x1, x2)))
def Eg (p0 : List UInt8) : Option (Sk) :=
 (loop (Ff p0) ((0 : Int), (0 : Int), (0 : Int))).bind fun (x4, x5) => some (⟨x4, x5⟩ : Sk)
theorem Lb {p0 q0} (hm : Eg p0 = some q0) (A : HH g h [] F) (hc : BG (cfg.still 137) av = [.str p0] := by kernel_rfl) : ∃ v h', BH cfg g h 137 av v h' ∧ v = .agg [Ai q0.w0, Ai q0.w1] ∧ HH g h' [] F := by
 refine ES 35 [.cell 2 194] hc ?_
 clear hc
 unfold Eg at hm
 refine bg 35 [(0, .str p0)] fun fr H => ?_
 refine AG 1 ?_
 obtain ⟨h1, e1, A⟩ := A.pu (.cells none 2 [Ai 0, Ai 0])
 refine BK 2 (.ptr (some (h.size, 0))) e1 H fun fr t H => ?_
 refine CJ 1 id ?_
 obtain ⟨h2, e2, A⟩ := A.pu (.cells none 2 [Ai 0, Ai 0])
 refine BK 3 (.ptr (some (h1.size, 0))) e2 H fun fr t H => ?_
 refine BI id (AP (AG 3 (AK 3 [(7, Ai (p0.length : Int)), (8, Ai 0)] H fun fr H => AY (id := 0) (by kernel_rfl) ?_)))
 obtain ⟨o1, ho, hm⟩ := bind_some hm
 refine BJ (Q' := fun e fr' h' => (∃ x4 x5, e = .exit 0 ∧ (x4, x5) = o1 ∧ Has fr' 35 [(2, .ptr (some (h.size, 0))), (3, .ptr (some (h1.size, 0)))] ∧ HH g h' [.obj h1.size (.cells none 2 [Ai x4, Ai x5]), .obj h.size (.cells none 2 [Ai 0, Ai 0])] F) ∨ False) ?_ ?_
 ·refine Ce (by kernel_rfl) (fun (s : Int × Int × Int) fr' h' => ∃ x1 x2 x3, (x1, x2, x3) = s ∧ Has fr' 35 [(0, .str p0), (2, .ptr (some (h.size, 0))), (3, .ptr (some (h1.size, 0))), (7, Ai (p0.length : Int)), (8, Ai x3)] ∧ HH g h' [.obj h1.size (.cells none 2 [Ai x1, Ai x2]), .obj h.size (.cells none 2 [Ai 0, Ai 0])] F) ho ⟨_, _, _, rfl, H.ls, A⟩ ?_
  clear ho hm H A
  intro s q fr h3 hI hm
  obtain ⟨x1, x2, x3, rfl, H, A⟩ := hI
  unfold Ff at hm
  refine AG 1 (AK 1 [(9, .bool (decide (x3 < (p0.length : Int))))] H fun fr H => AP (AZ 9 H hm (fun hb hm H => ?_) fun hb hm H => ?_))
  ·refine CI id (AP (AY (id := 1) (by kernel_rfl) ?_))
   refine AG 2 (Bg 2 [(4, Ai x3)] 4 H fun fr H => ?_)
   obtain ⟨x6, hx, hm⟩ := bind_some hm
   refine BC 2 [] 13 (Ab x6) h3 H (fun fr => .of (EW (by kernel_rfl) hx)) fun fr t H => ?_
   refine AK 1 [(5, Ab x6)] H fun fr H => AP ?_
   obtain ⟨o2, ho, hm⟩ := bind_some hm
   refine BJ (Q' := fun e fr' h' => (∃ x7, e = .normal ∧ x7 = o2 ∧ Has fr' 35 [(0, .str p0), (2, .ptr (some (h.size, 0))), (3, .ptr (some (h1.size, 0))), (5, Ab x7), (7, Ai (p0.length : Int)), (8, Ai x3)] ∧ HH g h' [.obj h1.size (.cells none 2 [Ai x1, Ai x2]), .obj h.size (.cells none 2 [Ai 0, Ai 0])] F) ∨ False) ?_ ?_
   ·replace hm := ho
    clear ho
    refine AG 6 (AM 3 [(16, .bool (decide (x3 ≥ 148)))] H fun fr H => A5 3 (fun fr' h' => h3 = h' ∧ Has fr' 35 [(0, .str p0), (2, .ptr (some (h.size, 0))), (3, .ptr (some (h1.size, 0))), (5, Ab x6), (7, Ai (p0.length : Int)), (8, Ai x3), (19, .bool ((decide (x3 ≥ 148)) && (decide (x3 < 156))))]) ?_ ?_)
    ·cases hb : (decide (x3 ≥ 148) : Bool) with
     | true =>
      replace H := H.kn 16 hb
      exact AM 3 [(19, .bool (decide (x3 < 156)))] H fun fr H => Ao H hb
     | false =>
      replace H := H.kn 16 hb
      exact AM 3 [(19, .bool false)] H fun fr H => Ao H hb
    intro t fr h' hK
    obtain ⟨e, H⟩ := hK
    subst e
    refine BI id (AZ 19 H hm (fun hb hm H => ?_) fun hb hm H => ?_)
    ·refine CX 1 (Bd 1 [(0, .str p0), (2, .ptr (some (h.size, 0))), (3, .ptr (some (h1.size, 0))), (5, Ab 32), (7, Ai (p0.length : Int)), (8, Ai x3)] H fun fr H => at_nil ?_)
     exact .inl ⟨_, rfl, An hm, H.ls, A⟩
    exact D5 (.inl ⟨_, rfl, An hm, H.ls, A⟩)
   clear ho
   clear A
   intro e fr h4 hQ
   rcases hQ with ⟨x7, rfl, rfl, H, A⟩ | hF
   ·show AW _ _ _ _ _ _ _
    refine AG 7 (AV 1 [] 21 0 0 A H fun fr t H => ?_)
    obtain ⟨h5, hx, A⟩ := A.s0 0 [Ai (IntKind.i64.wrap (x1 + (IntKind.i64.wrap x7)))] [_, _]
    refine CF 4 [] hx H fun fr t H => ?_
    refine Ep 8 id (AV 1 [] 27 0 1 A H fun fr t H => ?_)
    obtain ⟨h6, hx, A⟩ := A.s0 1 [Ai (IntKind.i64.wrap (x2 + (IntKind.i64.wrap (IntKind.i8.wrap x7))))] [_, _]
    refine CF 5 [] hx H fun fr t H => ?_
    refine Ep 2 id (Bd 2 [(0, .str p0), (2, .ptr (some (h.size, 0))), (3, .ptr (some (h1.size, 0))), (7, Ai (p0.length : Int)), (8, Ai (IntKind.i64.wrap (x3 + 1)))] H fun fr H => at_nil ?_)
    exact nx hm ⟨_, _, _, rfl, H.ls, A⟩
   exact hF.elim
  refine Bf (i := 0) (by kernel_rfl) ?_
  exact nr hm fun e => .inl ⟨_, _, rfl, e, H.ls, A⟩
 clear ho
 clear A
 intro e fr h7 hQ
 rcases hQ with ⟨x4, x5, rfl, rfl, H, A⟩ | hF
 ·show AW _ _ _ _ _ _ _
  refine AG 2 (Ae 34 _ _ H (fun fr => .of (BM (by kernel_rfl) (A.Eh 0 rfl (o := 0) (n := 2) ⟨Nat.le_of_ble_eq_true rfl, rfl⟩))) fun fr t H => ?_)
  obtain ⟨h8, hx, A⟩ := A.s1 0 [Ai x4, Ai x5] [_, _]
  refine Ch hx H fun fr t H => ?_
  refine BI id (AS ?_)
  obtain rfl := An hm
  refine ⟨.inl rfl, .agg [Ai x4, Ai x5], LQ (.cell (rT H) (CL (by kernel_rfl) (by kernel_rfl) (A.la 1 0 2)) .nil), ?_⟩
  replace A := A.d0
  exact ⟨rfl, A⟩
 exact hF.elim
def EU (p0 : List UInt8) : Option ((List UInt8) × Int) :=
 Ad ((p0.length : Int) != 512) (some (([] : List UInt8), (1 : Int))) ((Eg p0).bind fun x1 => (IG ([x1.w0, x1.w1] : List Int) (0 : Int)).bind fun x2 => (CD x2 (7 : Int)).bind fun (x3, x4) => (FF p0 none (some (148 : Int))).bind fun x5 => D3 (decide (x5.length + x3.length ≤ 9223372036854775807)) <| D3 (decide ((x5 ++ x3).length + ([32] : List UInt8).length ≤ 9223372036854775807)) <| (FF p0 (some (156 : Int)) none).bind fun x6 => D3 (decide (((x5 ++ x3) ++ ([32] : List UInt8)).length + x6.length ≤ 9223372036854775807)) <| some (((x5 ++ x3) ++ ([32] : List UInt8)) ++ x6, (0 : Int)))
theorem P5 {p0 q0 q1} (hm : EU p0 = some (q0, q1)) (A : HH g h [] F) (hc : BG (cfg.still 75) av = [.str p0] := by kernel_rfl) : ∃ v h', BH cfg g h 75 av v h' ∧ v = .tuple [.str q0, Ai q1] ∧ HH g h' [] F := by
 refine ES 24 [.tmp 2, .tmp 3] hc ?_
 clear hc
 unfold EU at hm
 refine bg 24 [(0, .str p0)] fun fr H => ?_
 refine AG 2 (AK 2 [] H fun fr H => AP (AG 3 (AK 3 [(8, .bool ((p0.length : Int) != 512))] H fun fr H => AZ 8 H hm (fun hb hm H => ?_) fun hb hm H => ?_)))
 ·refine AG 2 (AK 2 [(2, .str ([] : List UInt8)), (3, Ai 1)] H fun fr H => AS ?_)
  obtain ⟨rfl, rfl⟩ := BD hm
  exact ⟨.inl rfl, _, rH H, rfl, A⟩
 refine Br 9 id ?_
 obtain ⟨x1, hx, hm⟩ := bind_some hm
 obtain ⟨v1, h1, hr, rfl, A1⟩ := Lb (av := [.str p0]) hx (A.cut 0)
 replace A := A.DN A1
 refine A6 1 [] 11 hr H fun fr t H => ?_
 obtain ⟨x2, hq1, hm⟩ := bind_some hm
 refine Ae 12 (Ai x2) h1 H (fun fr => .of (Sx (fun w : Int => Ai w) [x1.w0, x1.w1] (by kernel_rfl) rfl rfl hq1)) fun fr t H => ?_
 obtain ⟨⟨x3, x4⟩, hx, hm⟩ := bind_some hm
 obtain ⟨v1, h2, hr, rfl, A1⟩ := HW (av := [Ai x2, Ai 7]) hx (A.cut 0)
 replace A := A.DN A1
 refine Aw 13 hr H fun fr t H => ?_
 refine AK 5 [(4, .str x3)] H fun fr H => AP (JF 4 10 ?_)
 obtain ⟨x5, hx, hm⟩ := bind_some hm
 refine BC 1 [] 17 (.str x5) h2 H (fun fr => .of (Fe (k := .i64) (k' := .i64) (lo := none) (hi := (some (148 : Int))) (by kernel_rfl) hx)) fun fr t H => ?_
 refine AM 1 [(18, .str x3)] H fun fr H => ?_
 obtain ⟨hb, hm⟩ := A4 hm
 refine Ae 19 (.str (x5 ++ x3)) h2 H (fun fr => .of (Lq (by kernel_rfl) hb)) fun fr t H => ?_
 obtain ⟨hb, hm⟩ := A4 hm
 refine Ae 20 (.str ((x5 ++ x3) ++ ([32] : List UInt8))) h2 H (fun fr => .of (Lq (by kernel_rfl) hb)) fun fr t H => ?_
 obtain ⟨x6, hx, hm⟩ := bind_some hm
 refine BC 1 [] 22 (.str x6) h2 H (fun fr => .of (Fe (k := .i64) (k' := .i64) (lo := (some (156 : Int))) (hi := none) (by kernel_rfl) hx)) fun fr t H => ?_
 obtain ⟨hb, hm⟩ := A4 hm
 refine Ae 23 (.str (((x5 ++ x3) ++ ([32] : List UInt8)) ++ x6)) h2 H (fun fr => .of (Lq (by kernel_rfl) hb)) fun fr t H => ?_
 refine AK 2 [(2, .str (((x5 ++ x3) ++ ([32] : List UInt8)) ++ x6)), (3, Ai 0)] H fun fr H => AS ?_
 obtain ⟨rfl, rfl⟩ := BD hm
 exact ⟨.inl rfl, _, rH H, rfl, A⟩
def I9 (p0 : List UInt8) (s : Int × Int) : Option ((Int × Int) ⊕ ((Int) ⊕ (Int × Int))) :=
 match s with
 | (x3, x4) => Ad (decide (x4 < (p0.length : Int))) ((LN p0 x4).bind fun x8 => Ad ((decide ((Qp .i64 (HB .i64 x3 (8 : Int)) (IntKind.i64.wrap x8)) > 9007199254740991)) || (decide ((Qp .i64 (HB .i64 x3 (8 : Int)) (IntKind.i64.wrap x8)) < (-9007199254740992)))) (some (.inr (.inr ((0 : Int), (6 : Int))))) (some (.inl (Qp .i64 (HB .i64 x3 (8 : Int)) (IntKind.i64.wrap x8), IntKind.i64.wrap (x4 + 1))))) (some (.inr (.inl x3)))
def Ig (p0 : List UInt8) : Option (Int × Int) :=
 ((LN p0 (0 : Int)).bind fun x2 => Ad (x2 == 255) (some (-1 : Int)) (some (0 : Int)) : Option ((Int))).bind fun x1 => (loop (I9 p0) (x1, (1 : Int))).bind fun o2 => (match o2 with | .inl x5 => Ad (decide (x5 < (-9007199254740991))) (some ((0 : Int), (6 : Int))) (some (x5, (0 : Int))) | .inr (x6, x7) => some (x6, x7))
theorem Of {p0 q0 q1} (hm : Ig p0 = some (q0, q1)) (A : HH g h [] F) (hc : BG (cfg.still 191) av = [.str p0] := by kernel_rfl) : ∃ v h', BH cfg g h 191 av v h' ∧ v = .tuple [Ai q0, Ai q1] ∧ HH g h' [] F := by
 refine ES 31 [.tmp 2, .tmp 3] hc ?_
 clear hc
 unfold Ig at hm
 refine bg 31 [(0, .str p0)] fun fr H => ?_
 refine AG 2 (Bg 2 [] 1 H fun fr H => AK 1 [(4, Ai 0)] H fun fr H => AP ?_)
 obtain ⟨o1, ho, hm⟩ := bind_some hm
 refine BJ (Q' := fun e fr' h' => (∃ x1, e = .normal ∧ x1 = o1 ∧ Has fr' 31 [(0, .str p0), (4, Ai x1)] ∧ HH g h' [] F) ∨ False) ?_ ?_
 ·replace hm := ho
  clear ho
  refine AG 3 ?_
  obtain ⟨x2, hx, hm⟩ := bind_some hm
  refine BC 1 [] 7 (Ab x2) h H (fun fr => .of (EW (by kernel_rfl) hx)) fun fr t H => ?_
  refine AK 1 [(8, .bool (x2 == 255))] H fun fr H => AZ 8 H hm (fun hb hm H => ?_) fun hb hm H => ?_
  ·refine CX 1 (Bd 1 [(0, .str p0), (4, Ai (-1))] H fun fr H => at_nil ?_)
   exact .inl ⟨_, rfl, An hm, H.ls, A⟩
  exact D5 (.inl ⟨_, rfl, An hm, H.ls, A⟩)
 clear ho
 clear A
 intro e fr h1 hQ
 rcases hQ with ⟨x1, rfl, rfl, H, A⟩ | hF
 ·show AW _ _ _ _ _ _ _
  refine AP (AG 1 (AK 1 [(5, Ai 1)] H fun fr H => AY (id := 0) (by kernel_rfl) ?_))
  obtain ⟨o2, ho, hm⟩ := bind_some hm
  refine BJ (Q' := fun e fr' h' => (∃ x5, e = .exit 0 ∧ .inl x5 = o2 ∧ Has fr' 31 [(4, Ai x5)] ∧ HH g h' [] F) ∨ (∃ x6 x7, e = .ret ∧ .inr (x6, x7) = o2 ∧ Has fr' 31 [(2, Ai x6), (3, Ai x7)] ∧ HH g h' [] F) ∨ False) ?_ ?_
  ·refine Ce (by kernel_rfl) (fun (s : Int × Int) fr' h' => ∃ x3 x4, (x3, x4) = s ∧ Has fr' 31 [(0, .str p0), (4, Ai x3), (5, Ai x4)] ∧ HH g h' [] F) ho ⟨_, _, rfl, H.ls, A⟩ ?_
   clear ho hm H A
   intro s q fr h2 hI hm
   obtain ⟨x3, x4, rfl, H, A⟩ := hI
   unfold I9 at hm
   refine AP (AG 4 (AK 4 [(12, .bool (decide (x4 < (p0.length : Int))))] H fun fr H => AZ 12 H hm (fun hb hm H => ?_) fun hb hm H => ?_))
   ·refine CI id (AP (AY (id := 1) (by kernel_rfl) ?_))
    refine AG 8 ?_
    obtain ⟨x8, hx, hm⟩ := bind_some hm
    refine BC 4 [(16, Ai (HB .i64 x3 (8 : Int)))] 19 (Ab x8) h2 H (fun fr => .of (EW (by kernel_rfl) hx)) fun fr t H => ?_
    refine Bd 3 [(0, .str p0), (4, Ai (Qp .i64 (HB .i64 x3 (8 : Int)) (IntKind.i64.wrap x8))), (5, Ai x4)] H fun fr H => CJ 6 id (AM 3 [(24, .bool (decide ((Qp .i64 (HB .i64 x3 (8 : Int)) (IntKind.i64.wrap x8)) > 9007199254740991)))] H fun fr H => A5 3 (fun fr' h' => h2 = h' ∧ Has fr' 31 [(0, .str p0), (4, Ai (Qp .i64 (HB .i64 x3 (8 : Int)) (IntKind.i64.wrap x8))), (5, Ai x4), (27, .bool ((decide ((Qp .i64 (HB .i64 x3 (8 : Int)) (IntKind.i64.wrap x8)) > 9007199254740991)) || (decide ((Qp .i64 (HB .i64 x3 (8 : Int)) (IntKind.i64.wrap x8)) < (-9007199254740992)))))]) ?_ ?_)
    ·cases hb : (decide ((Qp .i64 (HB .i64 x3 (8 : Int)) (IntKind.i64.wrap x8)) > 9007199254740991) : Bool) with
     | true =>
      replace H := H.kn 24 hb
      exact AM 3 [(27, .bool true)] H fun fr H => Ao H hb
     | false =>
      replace H := H.kn 24 hb
      exact AM 3 [(27, .bool (decide ((Qp .i64 (HB .i64 x3 (8 : Int)) (IntKind.i64.wrap x8)) < (-9007199254740992))))] H fun fr H => Ao H hb
    intro t fr h' hK
    obtain ⟨e, H⟩ := hK
    subst e
    refine BI id (AZ 27 H hm (fun hb hm H => ?_) fun hb hm H => ?_)
    ·refine AG 2 (AK 2 [(2, Ai 0), (3, Ai 6)] H fun fr H => AS ?_)
     exact nr hm fun e => Or.inr (.inl ⟨_, _, rfl, e, H.ls, A⟩)
    refine DI 3 id (Bd 3 [(0, .str p0), (4, Ai (Qp .i64 (HB .i64 x3 (8 : Int)) (IntKind.i64.wrap x8))), (5, Ai (IntKind.i64.wrap (x4 + 1)))] H fun fr H => at_nil ?_)
    exact nx hm ⟨_, _, rfl, H.ls, A⟩
   refine Bf (i := 0) (by kernel_rfl) ?_
   exact nr hm fun e => .inl ⟨_, rfl, e, H.ls, A⟩
  clear ho
  clear A
  intro e fr h3 hQ
  rcases hQ with ⟨x5, rfl, rfl, H, A⟩ | ⟨x6, x7, rfl, rfl, H, A⟩ | hF
  ·show AW _ _ _ _ _ _ _
   refine AP (AG 2 (AK 2 [(29, .bool (decide (x5 < (-9007199254740991))))] H fun fr H => AZ 29 H hm (fun hb hm H => ?_) fun hb hm H => ?_))
   ·refine AG 2 (AK 2 [(2, Ai 0), (3, Ai 6)] H fun fr H => AS ?_)
    obtain ⟨rfl, rfl⟩ := BD hm
    exact ⟨.inl rfl, _, rH H, rfl, A⟩
   refine Br 3 id (AK 3 [(2, Ai x5), (3, Ai 0)] H fun fr H => AS ?_)
   obtain ⟨rfl, rfl⟩ := BD hm
   exact ⟨.inl rfl, _, rH H, rfl, A⟩
  ·obtain ⟨rfl, rfl⟩ := BD hm
   exact ⟨.inl rfl, _, rH H, rfl, A⟩
  exact hF.elim
 exact hF.elim
def Df (p0 : List UInt8) (s : Int × Int × Bool × Int) : Option ((Int × Int × Bool × Int) ⊕ ((Int × Bool) ⊕ (Int × Int))) :=
 match s with
 | (x1, x2, x3, x4) => Ad (decide (x4 < (p0.length : Int))) (((LN p0 x4).bind fun x14 => Ad (((decide (x14 ≥ 48)) && (decide (x14 ≤ 55))) && (x1 != 2)) (Ad (decide ((Qp .i64 (HB .i64 x2 (3 : Int)) (IntKind.i64.wrap (IntKind.u8.wrap (x14 - 48)))) > 9007199254740991)) (some (.inl ((1 : Int), (0 : Int), true))) (some (.inl ((1 : Int), Qp .i64 (HB .i64 x2 (3 : Int)) (IntKind.i64.wrap (IntKind.u8.wrap (x14 - 48))), x3)))) (Ad ((x14 == 32) && (x1 == 0)) (some (.inl (x1, x2, x3))) (Ad ((x14 == 32) || (x14 == 0)) (some (.inl ((2 : Int), x2, x3))) (some (.inr ((0 : Int), (2 : Int)))))) : Option ((Int × Int × Bool) ⊕ (Int × Int))).bind fun o2 => (match o2 with | .inl (x9, x10, x11) => some (.inl (x9, x10, x11, IntKind.i64.wrap (x4 + 1))) | .inr (x12, x13) => some (.inr (.inr (x12, x13))))) (some (.inr (.inl (x2, x3))))
def Fj (p0 : List UInt8) : Option (Int × Int) :=
 (loop (Df p0) ((0 : Int), (0 : Int), false, (0 : Int))).bind fun o1 => (match o1 with | .inl (x5, x6) => Ad x6 (some ((0 : Int), (6 : Int))) (some (x5, (0 : Int))) | .inr (x7, x8) => some (x7, x8))
theorem Mz {p0 q0 q1} (hm : Fj p0 = some (q0, q1)) (A : HH g h [] F) (hc : BG (cfg.still 192) av = [.str p0] := by kernel_rfl) : ∃ v h', BH cfg g h 192 av v h' ∧ v = .tuple [Ai q0, Ai q1] ∧ HH g h' [] F := by
 refine ES 53 [.tmp 2, .tmp 3] hc ?_
 clear hc
 unfold Fj at hm
 refine bg 53 [(0, .str p0)] fun fr H => ?_
 refine AG 2 (AK 2 [] H fun fr H => VC (by kernel_rfl) ?_)
 refine AG 2 (Bg 2 [(4, Ai 0), (5, Ai 0)] 1 H fun fr H => AK 1 [(6, .bool false)] H fun fr H => AP (WH (by kernel_rfl) ?_))
 show AW _ _ _ _ _ _ _
 refine AP (AG 3 (AK 3 [(10, Ai (p0.length : Int)), (11, Ai 0)] H fun fr H => AY (id := 0) (by kernel_rfl) ?_))
 obtain ⟨o1, ho, hm⟩ := bind_some hm
 refine BJ (Q' := fun e fr' h' => (∃ x5 x6, e = .exit 0 ∧ .inl (x5, x6) = o1 ∧ Has fr' 53 [(5, Ai x5), (6, .bool x6)] ∧ HH g h' [] F) ∨ (∃ x7 x8, e = .ret ∧ .inr (x7, x8) = o1 ∧ Has fr' 53 [(2, Ai x7), (3, Ai x8)] ∧ HH g h' [] F) ∨ False) ?_ ?_
 ·refine Ce (by kernel_rfl) (fun (s : Int × Int × Bool × Int) fr' h' => ∃ x1 x2 x3 x4, (x1, x2, x3, x4) = s ∧ Has fr' 53 [(0, .str p0), (4, Ai x1), (5, Ai x2), (6, .bool x3), (10, Ai (p0.length : Int)), (11, Ai x4)] ∧ HH g h' [] F) ho ⟨_, _, _, _, rfl, H.ls, A⟩ ?_
  clear ho hm H A
  intro s q fr h1 hI hm
  obtain ⟨x1, x2, x3, x4, rfl, H, A⟩ := hI
  unfold Df at hm
  refine AG 1 (AK 1 [(12, .bool (decide (x4 < (p0.length : Int))))] H fun fr H => AP (AZ 12 H hm (fun hb hm H => ?_) fun hb hm H => ?_))
  ·refine CI id (AP ?_)
   obtain ⟨o2, ho, hm⟩ := bind_some hm
   refine BJ (Q' := fun e fr' h' => (∃ x9 x10 x11, e = .normal ∧ .inl (x9, x10, x11) = o2 ∧ Has fr' 53 [(0, .str p0), (4, Ai x9), (5, Ai x10), (6, .bool x11), (10, Ai (p0.length : Int)), (11, Ai x4)] ∧ HH g h' [] F) ∨ (∃ x12 x13, e = .ret ∧ .inr (x12, x13) = o2 ∧ Has fr' 53 [(2, Ai x12), (3, Ai x13)] ∧ HH g h' [] F) ∨ False) ?_ ?_
   ·replace hm := ho
    clear ho
    refine AY (id := 1) (by kernel_rfl) ?_
    refine AG 2 (Bg 2 [(7, Ai x4)] 4 H fun fr H => ?_)
    obtain ⟨x14, hx, hm⟩ := bind_some hm
    refine BC 2 [] 16 (Ab x14) h1 H (fun fr => .of (EW (by kernel_rfl) hx)) fun fr t H => ?_
    refine AK 1 [(8, Ab x14)] H fun fr H => AP (AY (id := 2) (by kernel_rfl) ?_)
    refine AG 11 (AM 3 [(20, .bool (decide (x14 ≥ 48)))] H fun fr H => A5 3 (fun fr' h' => h1 = h' ∧ Has fr' 53 [(0, .str p0), (4, Ai x1), (5, Ai x2), (6, .bool x3), (8, Ab x14), (10, Ai (p0.length : Int)), (11, Ai x4), (23, .bool ((decide (x14 ≥ 48)) && (decide (x14 ≤ 55))))]) ?_ ?_)
    ·cases hb : (decide (x14 ≥ 48) : Bool) with
     | true =>
      replace H := H.kn 20 hb
      exact AM 3 [(23, .bool (decide (x14 ≤ 55)))] H fun fr H => Ao H hb
     | false =>
      replace H := H.kn 20 hb
      exact AM 3 [(23, .bool false)] H fun fr H => Ao H hb
    intro t fr h' hK
    obtain ⟨e, H⟩ := hK
    subst e
    refine AM 1 [(24, .bool ((decide (x14 ≥ 48)) && (decide (x14 ≤ 55))))] H fun fr H => A5 3 (fun fr' h' => h1 = h' ∧ Has fr' 53 [(0, .str p0), (4, Ai x1), (5, Ai x2), (6, .bool x3), (8, Ab x14), (10, Ai (p0.length : Int)), (11, Ai x4), (27, .bool (((decide (x14 ≥ 48)) && (decide (x14 ≤ 55))) && (x1 != 2)))]) ?_ ?_
    ·cases hb : ((decide (x14 ≥ 48)) && (decide (x14 ≤ 55)) : Bool) with
     | true =>
      replace H := H.kn 24 hb
      exact AM 3 [(27, .bool (x1 != 2))] H fun fr H => Ao H hb
     | false =>
      replace H := H.kn 24 hb
      exact AM 3 [(27, .bool false)] H fun fr H => Ao H hb
    intro t fr h' hK
    obtain ⟨e, H⟩ := hK
    subst e
    refine AK 1 [(17, .bool (((decide (x14 ≥ 48)) && (decide (x14 ≤ 55))) && (x1 != 2)))] H fun fr H => AZ 17 H hm (fun hb hm H => ?_) fun hb hm H => ?_
    ·refine AG 1 (Bd 1 [(0, .str p0), (4, Ai 1), (5, Ai x2), (6, .bool x3), (8, Ab x14), (10, Ai (p0.length : Int)), (11, Ai x4)] H fun fr H => BI id (AP (AG 7 (Bd 7 [(0, .str p0), (4, Ai 1), (5, Ai (Qp .i64 (HB .i64 x2 (3 : Int)) (IntKind.i64.wrap (IntKind.u8.wrap (x14 - 48))))), (6, .bool x3), (10, Ai (p0.length : Int)), (11, Ai x4)] H fun fr H => CJ 2 id (AK 2 [(35, .bool (decide ((Qp .i64 (HB .i64 x2 (3 : Int)) (IntKind.i64.wrap (IntKind.u8.wrap (x14 - 48)))) > 9007199254740991)))] H fun fr H => AZ 35 H hm (fun hb hm H => ?_) fun hb hm H => ?_)))))
     ·refine CX 2 (Bd 2 [(0, .str p0), (4, Ai 1), (5, Ai 0), (6, .bool true), (10, Ai (p0.length : Int)), (11, Ai x4)] H fun fr H => BI id (Bf (i := 1) (by kernel_rfl) ?_))
      exact .inl ⟨_, _, _, rfl, An hm, H.ls, A⟩
     refine CI id (Bf (i := 1) (by kernel_rfl) ?_)
     exact .inl ⟨_, _, _, rfl, An hm, H.ls, A⟩
    refine AG 7 (AM 3 [(39, .bool (x14 == 32))] H fun fr H => A5 3 (fun fr' h' => h1 = h' ∧ Has fr' 53 [(0, .str p0), (4, Ai x1), (5, Ai x2), (6, .bool x3), (8, Ab x14), (10, Ai (p0.length : Int)), (11, Ai x4), (42, .bool ((x14 == 32) && (x1 == 0)))]) ?_ ?_)
    ·cases hb : (x14 == 32 : Bool) with
     | true =>
      replace H := H.kn 39 hb
      exact AM 3 [(42, .bool (x1 == 0))] H fun fr H => Ao H hb
     | false =>
      replace H := H.kn 39 hb
      exact AM 3 [(42, .bool false)] H fun fr H => Ao H hb
    intro t fr h' hK
    obtain ⟨e, H⟩ := hK
    subst e
    refine AK 1 [(36, .bool ((x14 == 32) && (x1 == 0)))] H fun fr H => AZ 36 H hm (fun hb hm H => ?_) fun hb hm H => ?_
    ·refine Bf (i := 1) (by kernel_rfl) ?_
     exact .inl ⟨_, _, _, rfl, An hm, H.ls, A⟩
    refine AG 7 (AM 3 [(46, .bool (x14 == 32))] H fun fr H => A5 3 (fun fr' h' => h1 = h' ∧ Has fr' 53 [(0, .str p0), (5, Ai x2), (6, .bool x3), (10, Ai (p0.length : Int)), (11, Ai x4), (49, .bool ((x14 == 32) || (x14 == 0)))]) ?_ ?_)
    ·cases hb : (x14 == 32 : Bool) with
     | true =>
      replace H := H.kn 46 hb
      exact AM 3 [(49, .bool true)] H fun fr H => Ao H hb
     | false =>
      replace H := H.kn 46 hb
      exact AM 3 [(49, .bool (x14 == 0))] H fun fr H => Ao H hb
    intro t fr h' hK
    obtain ⟨e, H⟩ := hK
    subst e
    refine AK 1 [(43, .bool ((x14 == 32) || (x14 == 0)))] H fun fr H => AZ 43 H hm (fun hb hm H => ?_) fun hb hm H => ?_
    ·refine AG 1 (AK 1 [(4, Ai 2)] H fun fr H => Bf (i := 1) (by kernel_rfl) ?_)
     exact .inl ⟨_, _, _, rfl, An hm, H.ls, A⟩
    refine Br 2 id (AK 2 [(2, Ai 0), (3, Ai 2)] H fun fr H => AS ?_)
    exact .inr (.inl ⟨_, _, rfl, An hm, H.ls, A⟩)
   clear ho
   clear A
   intro e fr h2 hQ
   rcases hQ with ⟨x9, x10, x11, rfl, rfl, H, A⟩ | ⟨x12, x13, rfl, rfl, H, A⟩ | hF
   ·show AW _ _ _ _ _ _ _
    refine CX 2 (Bd 2 [(0, .str p0), (4, Ai x9), (5, Ai x10), (6, .bool x11), (10, Ai (p0.length : Int)), (11, Ai (IntKind.i64.wrap (x4 + 1)))] H fun fr H => at_nil ?_)
    exact nx hm ⟨_, _, _, _, rfl, H.ls, A⟩
   ·exact nr hm fun e => Or.inr (.inl ⟨_, _, rfl, e, H.ls, A⟩)
   exact hF.elim
  refine Bf (i := 0) (by kernel_rfl) ?_
  exact nr hm fun e => .inl ⟨_, _, rfl, e, H.ls, A⟩
 clear ho
 clear A
 intro e fr h3 hQ
 rcases hQ with ⟨x5, x6, rfl, rfl, H, A⟩ | ⟨x7, x8, rfl, rfl, H, A⟩ | hF
 ·show AW _ _ _ _ _ _ _
  refine AP (AG 1 (AK 1 [(51, .bool x6)] H fun fr H => AZ 51 H hm (fun hb hm H => ?_) fun hb hm H => ?_))
  ·refine AG 2 (AK 2 [(2, Ai 0), (3, Ai 6)] H fun fr H => AS ?_)
   obtain ⟨rfl, rfl⟩ := BD hm
   exact ⟨.inl rfl, _, rH H, rfl, A⟩
  refine Br 3 id (AK 3 [(2, Ai x5), (3, Ai 0)] H fun fr H => AS ?_)
  obtain ⟨rfl, rfl⟩ := BD hm
  exact ⟨.inl rfl, _, rH H, rfl, A⟩
 ·obtain ⟨rfl, rfl⟩ := BD hm
  exact ⟨.inl rfl, _, rH H, rfl, A⟩
 exact hF.elim
def GL (p0 : List UInt8) : Option (Int) :=
 Ad (p0 == ([117, 115, 116, 97, 114, 0, 48, 48] : List UInt8)) (some (2 : Int)) (Ad (p0 == ([117, 115, 116, 97, 114, 32, 32, 0] : List UInt8)) (some (3 : Int)) (Ad (p0 == ([0, 0, 0, 0, 0, 0, 0, 0] : List UInt8)) (some (1 : Int)) (some (0 : Int))))
theorem OB {p0 q0} (hm : GL p0 = some q0) (A : HH g h [] F) (hc : BG (cfg.still 77) av = [.str p0] := by kernel_rfl) : ∃ v h', BH cfg g h 77 av v h' ∧ v = Ai q0 ∧ HH g h' [] F := by
 refine ES 10 [.tmp 2] hc ?_
 clear hc
 unfold GL at hm
 refine bg 10 [(0, .str p0)] fun fr H => ?_
 refine AG 1 (AK 1 [] H fun fr H => AP (AG 1 (AK 1 [(3, .str p0)] H fun fr H => AY (id := 0) (by kernel_rfl) ?_)))
 refine AG 2 (AK 2 [(4, .bool (p0 == ([117, 115, 116, 97, 114, 0, 48, 48] : List UInt8)))] H fun fr H => AZ 4 H hm (fun hb hm H => ?_) fun hb hm H => ?_)
 ·refine AG 1 (AK 1 [(2, Ai 2)] H fun fr H => AS ?_)
  obtain rfl := An hm
  exact ⟨.inl rfl, _, rH H, rfl, A⟩
 refine AG 2 (AK 2 [(6, .bool (p0 == ([117, 115, 116, 97, 114, 32, 32, 0] : List UInt8)))] H fun fr H => AZ 6 H hm (fun hb hm H => ?_) fun hb hm H => ?_)
 ·refine AG 1 (AK 1 [(2, Ai 3)] H fun fr H => AS ?_)
  obtain rfl := An hm
  exact ⟨.inl rfl, _, rH H, rfl, A⟩
 refine AG 2 (AK 2 [(8, .bool (p0 == ([0, 0, 0, 0, 0, 0, 0, 0] : List UInt8)))] H fun fr H => AZ 8 H hm (fun hb hm H => ?_) fun hb hm H => ?_)
 ·refine AG 1 (AK 1 [(2, Ai 1)] H fun fr H => AS ?_)
  obtain rfl := An hm
  exact ⟨.inl rfl, _, rH H, rfl, A⟩
 refine Br 1 id (AK 1 [(2, Ai 0)] H fun fr H => AS ?_)
 obtain rfl := An hm
 exact ⟨.inl rfl, _, rH H, rfl, A⟩
end
end Go.Av.L
