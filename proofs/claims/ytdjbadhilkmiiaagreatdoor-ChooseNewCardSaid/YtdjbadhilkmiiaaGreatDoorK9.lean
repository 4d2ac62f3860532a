/-
 A part.
-/
import Derived.Test.YtdjbadhilkmiiaaGreatDoorKCfg
import Derived.Test.YtdjbadhilkmiiaaGreatDoorK6
import Derived.Test.YtdjbadhilkmiiaaGreatDoorK7
import Derived.Test.YtdjbadhilkmiiaaGreatDoorK8
namespace Go.Av.L
open Go.Av Go.Lib
set_option maxRecDepth 10000
set_option maxHeartbeats 4000000
set_option linter.unusedVariables false
set_option linter.unusedSimpArgs false
variable {g : Gd} {h : AJ} {F : List Ck} {av : List AB}
noncomputable section
def DO (p8 : Int) (s : (List AD) × Int) : Option (((List AD) × Int) ⊕ (((List AD)))) :=
 match s with
 | (x2, x3) => Ac (decide (x3 < (Int.tmod (IntKind.i64.wrap p8) (300 : Int)))) (Ca (Lw 24 (x2.length + ([(⟨([97] : List UInt8), false, false, false⟩ : AD)] : List AD).length)) <| some (.inl ((x2 ++ ([(⟨([97] : List UInt8), false, false, false⟩ : AD)] : List AD)), IntKind.i64.wrap (x3 + 1)))) (some (.inr x2))
def Dt (p0 : Int) (p1 : Int) (p2 : Int) (p3 : Int) (p4 : Int) (p5 : Int) (p6 : Bb) (p7 : Bool) (p8 : Int) (p9 : List UInt8) : Option (Bool) :=
 Ac (decide ((p9.length : Int) > 40)) ((CQ).bind fun x1 => some x1) ((loop (DO p8) (([] : List AD), (0 : Int))).bind fun x4 => (EV (⟨([(⟨p9, false, false, false⟩ : AD)] : List AD), x4, ([] : List Ao), false, false, p5, p7, p6, p3, p4, p0, p1, p2⟩ : BI)).bind fun (w3, x6) => (match w3 with | some x5w2 => (BB p0 (1 : Int) (4096 : Int)).bind fun x7 => (Ac (!x7) (some true) ((BB p1 (1 : Int) (65536 : Int)).bind fun x9 => some (!x9)) : Option (Bool)).bind fun x8 => (Ac x8 (some true) ((BB p2 (1 : Int) (4096 : Int)).bind fun x11 => some (!x11)) : Option (Bool)).bind fun x10 => (Ac x10 (some true) ((BB p3 (0 : Int) (9999 : Int)).bind fun x13 => some (!x13)) : Option (Bool)).bind fun x12 => (Ac x12 (some true) ((BB p4 (0 : Int) (9999 : Int)).bind fun x15 => some (!x15)) : Option (Bool)).bind fun x14 => (Ac x14 (some true) ((BB p5 (0 : Int) (3 : Int)).bind fun x17 => some (!x17)) : Option (Bool)).bind fun x16 => (Ac x16 (some true) ((Ac p7 ((DJ p6.CX p6.BS).bind fun x20 => some (!x20)) (some false) : Option (Bool)).bind fun x19 => some x19) : Option (Bool)).bind fun x18 => Ac x18 (some false) (Ac (decide ((IntKind.i64.wrap ((Int.tmod (IntKind.i64.wrap p8) (300 : Int)) + 1)) > 256)) (some false) ((CB p9).bind fun (x21, x22, x23) => Ac (x23 != 0) (some false) ((Ac (((x6 == 0) || false) || ((x6 == 7) && false)) ((CQ).bind fun x25 => some x25) (some false) : Option (Bool)).bind fun x24 => some x24))) | none => (BB p0 (1 : Int) (4096 : Int)).bind fun x26 => (Ac (!x26) (some true) ((BB p1 (1 : Int) (65536 : Int)).bind fun x28 => some (!x28)) : Option (Bool)).bind fun x27 => (Ac x27 (some true) ((BB p2 (1 : Int) (4096 : Int)).bind fun x30 => some (!x30)) : Option (Bool)).bind fun x29 => (Ac x29 (some true) ((BB p3 (0 : Int) (9999 : Int)).bind fun x32 => some (!x32)) : Option (Bool)).bind fun x31 => (Ac x31 (some true) ((BB p4 (0 : Int) (9999 : Int)).bind fun x34 => some (!x34)) : Option (Bool)).bind fun x33 => (Ac x33 (some true) ((BB p5 (0 : Int) (3 : Int)).bind fun x36 => some (!x36)) : Option (Bool)).bind fun x35 => (Ac x35 (some true) ((Ac p7 ((DJ p6.CX p6.BS).bind fun x39 => some (!x39)) (some false) : Option (Bool)).bind fun x38 => some x38) : Option (Bool)).bind fun x37 => Ac x37 ((Ac (x6 == 6) ((CQ).bind fun x41 => some x41) (some false) : Option (Bool)).bind fun x40 => some x40) (Ac (decide ((IntKind.i64.wrap ((Int.tmod (IntKind.i64.wrap p8) (300 : Int)) + 1)) > 256)) ((Ac (x6 == 8) ((CQ).bind fun x43 => some x43) (some false) : Option (Bool)).bind fun x42 => some x42) ((CB p9).bind fun (x44, x45, x46) => Ac (x46 != 0) ((Ac (x6 == x46) ((CQ).bind fun x48 => some x48) (some false) : Option (Bool)).bind fun x47 => some x47) ((Ac (((x6 == 0) && false) || ((x6 == 7) || false)) ((CQ).bind fun x50 => some x50) (some false) : Option (Bool)).bind fun x49 => some x49)))))
theorem Ix {p0 p1 p2 p3 p4 p5 p6 p7 p8 p9 q0} (hm : Dt p0 p1 p2 p3 p4 p5 p6 p7 p8 p9 = some q0) (A : HH g h [] F) (hc : Ba (cfg.still 3) av = [Ai p0, Ai p1, Ai p2, Ai p3, Ai p4, Ai p5, .agg [Ai p6.CX, Ai p6.BS], .bool p7, .int .u16 p8, .str p9] := by kernel_rfl) : ∃ v h', Bi cfg g h 3 av v h' ∧ v = .bool q0 ∧ HH g h' [] F := by
 refine EN 165 [.tmp 20] hc ?_
 clear hc
 unfold Dt at hm
 refine bg 165 [(0, Ai p0), (1, Ai p1), (2, Ai p2), (3, Ai p3), (4, Ai p4), (5, Ai p5), (6, .agg [Ai p6.CX, Ai p6.BS]), (7, .bool p7), (8, .int .u16 p8), (9, .str p9)] fun fr H => ?_
 refine AF 2 ?_
 obtain ⟨h1, e1, A⟩ := A.pu (.cells none 2 [Ai p6.CX, Ai p6.BS])
 refine BP 16 (.ptr (some (h.size, 0))) e1 H fun fr t H => ?_
 refine AP 1 [] H fun fr H => AR (AF 3 (AP 3 [(31, .bool (decide ((p9.length : Int) > 40)))] H fun fr H => Ae 31 H hm (fun hb hm H => ?_) fun hb hm H => ?_))
 ·refine AF 2 ?_
  obtain ⟨x1, hx, hm⟩ := bind_some hm
  obtain ⟨v1, h2, hr, rfl, A1⟩ := C9 (av := []) hx (A.cut 0)
  replace A : HH g h2 [.obj h.size (.cells none 2 [Ai p6.CX, Ai p6.BS])] F := A.Cp (n := 0) A1
  refine A8 32 hr H fun fr t H => ?_
  refine AP 1 [(20, .bool x1)] H fun fr H => AY ?_
  obtain rfl := Ag hm
  refine ⟨.inl rfl, .bool x1, rH H, ?_⟩
  replace A := A.d0
  exact ⟨rfl, A⟩
 refine CN 11 id (BA 6 [(33, Ai p0), (34, Ai p1), (35, Ai p2), (36, Ai p3), (37, Ai p4), (38, Ai p5)] 39 _ _ H (fun fr => .of (B3 (by kernel_rfl) (A.F5 0 rfl (o := 0) (n := 2) ⟨Nat.le_of_ble_eq_true rfl, rfl⟩))) fun fr t H => ?_)
 obtain ⟨h3, e2, A⟩ := A.pu (.cells none 2 [.slice none 0, .slice none 0, .slice none 0, .bool false, .bool false, Ai 0, .bool false, Ai 0, Ai 0, Ai 0, Ai 0, Ai 0, Ai 0, Ai 0])
 refine Gf 2 [(41, .agg [.slice none 0, .slice none 0, .slice none 0, .bool false, .bool false, Ai p5, .bool p7, Ai p6.CX, Ai p6.BS, Ai p3, Ai p4, Ai p0, Ai p1, Ai p2])] 21 (.ptr (some (h1.size, 0))) e2 H fun fr t H => ?_
 obtain ⟨h4, hx, A1⟩ := A.st 0 rfl (o := 0) (new := [.slice none 0, .slice none 0, .slice none 0, .bool false, .bool false, Ai p5, .bool p7, Ai p6.CX, Ai p6.BS, Ai p3, Ai p4, Ai p0, Ai p1, Ai p2]) (ds := [.slice none 0, .slice none 0, .slice none 0, .bool false, .bool false, Ai p5, .bool p7, Ai p6.CX, Ai p6.BS, Ai p3, Ai p4, Ai p0, Ai p1, Ai p2]) (Nat.le_of_ble_eq_true rfl) rfl rfl
 replace A : HH g h4 [.obj h1.size (.cells none 2 [.slice none 0, .slice none 0, .slice none 0, .bool false, .bool false, Ai p5, .bool p7, Ai p6.CX, Ai p6.BS, Ai p3, Ai p4, Ai p0, Ai p1, Ai p2]), .obj h.size (.cells none 2 [Ai p6.CX, Ai p6.BS])] F := A1
 refine Cy hx H fun fr t H => ?_
 refine CI 4 id (AP 4 [(22, Ai (Int.tmod (IntKind.i64.wrap p8) (300 : Int)))] H fun fr H => AR (AF 2 (AP 2 [(45, Ai (Int.tmod (IntKind.i64.wrap p8) (300 : Int))), (46, Ai 0)] H fun fr H => Af (id := 0) (by kernel_rfl) ?_)))
 replace A : HH g h4 [.AK none 31 (AK AA ([] : List AD)), _, _] F := A.KI 31
 obtain ⟨o1, ho, hm⟩ := bind_some hm
 refine BU (Q' := fun e fr' h' => (∃ x4, e = .exit 0 ∧ x4 = o1 ∧ ∃ r2, Has fr' 165 [(0, Ai p0), (1, Ai p1), (2, Ai p2), (3, Ai p3), (4, Ai p4), (5, Ai p5), (7, .bool p7), (9, .str p9), (16, .ptr (some (h.size, 0))), (21, .ptr (some (h1.size, 0))), (22, Ai (Int.tmod (IntKind.i64.wrap p8) (300 : Int)))] ∧ HH g h' [.AK r2 31 (AK AA x4), .obj h1.size (.cells none 2 [.slice none 0, AH r2 x4.length, .slice none 0, .bool false, .bool false, Ai p5, .bool p7, Ai p6.CX, Ai p6.BS, Ai p3, Ai p4, Ai p0, Ai p1, Ai p2]), .obj h.size (.cells none 2 [Ai p6.CX, Ai p6.BS])] F) ∨ False) ?_ ?_
 ·refine CH (by kernel_rfl) (fun (s : (List AD) × Int) fr' h' => ∃ x2 x3, (x2, x3) = s ∧ ∃ r1, Has fr' 165 [(0, Ai p0), (1, Ai p1), (2, Ai p2), (3, Ai p3), (4, Ai p4), (5, Ai p5), (7, .bool p7), (9, .str p9), (16, .ptr (some (h.size, 0))), (21, .ptr (some (h1.size, 0))), (22, Ai (Int.tmod (IntKind.i64.wrap p8) (300 : Int))), (45, Ai (Int.tmod (IntKind.i64.wrap p8) (300 : Int))), (46, Ai x3)] ∧ HH g h' [.AK r1 31 (AK AA x2), .obj h1.size (.cells none 2 [.slice none 0, AH r1 x2.length, .slice none 0, .bool false, .bool false, Ai p5, .bool p7, Ai p6.CX, Ai p6.BS, Ai p3, Ai p4, Ai p0, Ai p1, Ai p2]), .obj h.size (.cells none 2 [Ai p6.CX, Ai p6.BS])] F) ho ⟨_, _, rfl, none, H.ls, A⟩ ?_
  clear ho hm H A
  intro s q fr h5 hI hm
  obtain ⟨x2, x3, rfl, r1, H, A⟩ := hI
  unfold DO at hm
  refine AF 1 (AP 1 [(47, .bool (decide (x3 < (Int.tmod (IntKind.i64.wrap p8) (300 : Int)))))] H fun fr H => AR (Ae 47 H hm (fun hb hm H => ?_) fun hb hm H => ?_))
  ·refine B0 id (AR (Af (id := 1) (by kernel_rfl) ?_))
   refine DQ 7 (Ah 1 [] 49 1 1 A H fun fr t H => ?_)
   refine AG 1 [(50, .agg [.str ([97] : List UInt8), .bool false, .bool false, .bool false])] H fun fr H => ?_
   obtain ⟨h6, e3, A⟩ := A.pL 31 [.str ([97] : List UInt8), .bool false, .bool false, .bool false]
   refine BP 51 (AH (some h5.size) (([(⟨([97] : List UInt8), false, false, false⟩ : AD)] : List AD).length)) e3 H fun fr t H => ?_
   obtain ⟨hb, hm⟩ := BE hm
   obtain ⟨r3, h7, hx, A1⟩ := HH.J2 BQ (by decide) A 1 (xs := x2) (ys := ([(⟨([97] : List UInt8), false, false, false⟩ : AD)] : List AD)) rfl (Cl A 0 rfl (n := ([(⟨([97] : List UInt8), false, false, false⟩ : AD)] : List AD).length) (z := 4) rfl (by decide)) rfl rfl hb
   replace A : HH g h7 [.AK (some h5.size) 31 ([.str ([97] : List UInt8), .bool false, .bool false, .bool false]), .AK r3 31 (AK AA (x2 ++ ([(⟨([97] : List UInt8), false, false, false⟩ : AD)] : List AD))), _, _] F := A1
   replace A := A.k3 1 2 3
   refine As 52 _ _ H (fun fr => .of (G3 (s := De r1 x2.length) (by kernel_rfl) hx)) fun fr t H => ?_
   obtain ⟨h8, hx, A1⟩ := A.st 1 rfl (o := 1) (new := [AH r3 ((x2 ++ ([(⟨([97] : List UInt8), false, false, false⟩ : AD)] : List AD)).length)]) (ds := [.slice none 0, AH r3 ((x2 ++ ([(⟨([97] : List UInt8), false, false, false⟩ : AD)] : List AD)).length), .slice none 0, .bool false, .bool false, Ai p5, .bool p7, Ai p6.CX, Ai p6.BS, Ai p3, Ai p4, Ai p0, Ai p1, Ai p2]) (Nat.le_of_ble_eq_true rfl) rfl rfl
   replace A : HH g h8 [_, .obj h1.size (.cells none 2 [_, AH r3 ((x2 ++ ([(⟨([97] : List UInt8), false, false, false⟩ : AD)] : List AD)).length), _, _, _, _, _, _, _, _, _, _, _, _]), _] F := A1
   refine Dn 1 [] hx H fun fr t H => ?_
   refine F4 2 id (BV 2 [(0, Ai p0), (1, Ai p1), (2, Ai p2), (3, Ai p3), (4, Ai p4), (5, Ai p5), (7, .bool p7), (9, .str p9), (16, .ptr (some (h.size, 0))), (21, .ptr (some (h1.size, 0))), (22, Ai (Int.tmod (IntKind.i64.wrap p8) (300 : Int))), (45, Ai (Int.tmod (IntKind.i64.wrap p8) (300 : Int))), (46, Ai (IntKind.i64.wrap (x3 + 1)))] H fun fr H => at_nil ?_)
   exact nx hm ⟨_, _, rfl, _, H.ls, A⟩
  refine Bz (i := 0) (by kernel_rfl) ?_
  exact nr hm fun e => .inl ⟨_, rfl, e, _, H.ls, A⟩
 clear ho
 clear A
 intro e fr h9 hQ
 rcases hQ with ⟨x4, rfl, rfl, r2, H, A⟩ | hF
 ·show AW _ _ _ _ _ _ _
  refine AF 5 (AG 2 [(56, .agg [.str p9, .bool false, .bool false, .bool false])] H fun fr H => ?_)
  obtain ⟨h10, e4, A⟩ := A.pL 31 [.str p9, .bool false, .bool false, .bool false]
  refine BP 57 (AH (some h9.size) (([(⟨p9, false, false, false⟩ : AD)] : List AD).length)) e4 H fun fr t H => ?_
  obtain ⟨h11, hx, A1⟩ := A.st 2 rfl (o := 0) (new := [AH (some h9.size) (([(⟨p9, false, false, false⟩ : AD)] : List AD).length)]) (ds := [AH (some h9.size) (([(⟨p9, false, false, false⟩ : AD)] : List AD).length), AH r2 x4.length, .slice none 0, .bool false, .bool false, Ai p5, .bool p7, Ai p6.CX, Ai p6.BS, Ai p3, Ai p4, Ai p0, Ai p1, Ai p2]) (Nat.le_of_ble_eq_true rfl) rfl rfl
  replace A : HH g h11 [.AK (some h9.size) 31 ([.str p9, .bool false, .bool false, .bool false]), _, .obj h1.size (.cells none 2 [AH (some h9.size) (([(⟨p9, false, false, false⟩ : AD)] : List AD).length), _, _, _, _, _, _, _, _, _, _, _, _, _]), _] F := A1
  refine Dn 1 [] hx H fun fr t H => ?_
  refine CI 7 id (As 60 _ _ H (fun fr => .of (B3 (by kernel_rfl) (A.F5 2 rfl (o := 0) (n := 14) ⟨Nat.le_of_ble_eq_true rfl, rfl⟩))) fun fr t H => ?_)
  replace A : HH g h11 [.AK (some h9.size) 31 (AK AA ([(⟨p9, false, false, false⟩ : AD)] : List AD)), _, _, _] F := A
  obtain ⟨⟨w3, x6⟩, hx, hm⟩ := bind_some hm
  obtain ⟨v1, h12, hr, hc⟩ := LO (av := [.agg [AH (some h9.size) (([(⟨p9, false, false, false⟩ : AD)] : List AD).length), AH r2 x4.length, .slice none 0, .bool false, .bool false, Ai p5, .bool p7, Ai p6.CX, Ai p6.BS, Ai p3, Ai p4, Ai p0, Ai p1, Ai p2]]) hx (A.cut 2)
  rcases hc with ⟨bx5w2, rx5w2_14, rx5w2_15, bx5w2_16, rx5w2_16_0, bx5w2_17, x5w2, rfl, rfl, A1⟩ | ⟨rfl, rfl, A1⟩
  ·replace A : HH g h12 [.obj bx5w2 (.cells none 2 [vs AA x5w2.c_.AQ, vs AA x5w2.c_.AS, vs AL x5w2.c_.Bt, .bool x5w2.c_.FT, .bool x5w2.c_.Ay, Ai x5w2.c_.BN, .bool x5w2.c_.Be, Ai x5w2.c_.An.CX, Ai x5w2.c_.An.BS, Ai x5w2.c_.Eu, Ai x5w2.c_.Bf, Ai x5w2.c_.Name, Ai x5w2.c_.Head, Ai x5w2.c_.BF, AH rx5w2_14 x5w2.Aj.length, AH rx5w2_15 x5w2.Ak.length, .ptr (some (bx5w2_16, 0)), .ptr (some (bx5w2_17, 0))]), .AK rx5w2_14 93 (AK (eP AE) x5w2.Aj), .AK rx5w2_15 93 (AK (eP AE) x5w2.Ak), .obj bx5w2_16 (.cells none 2 [AH rx5w2_16_0 x5w2.Aq.l_.length, Ai x5w2.Aq.Cm]), .AK rx5w2_16_0 99 (AK (eP AU) x5w2.Aq.l_), .obj bx5w2_17 (.cells none 2 ([Ai x5w2.Ar.n_, Ai x5w2.Ar.Az] ++ (DC 257 (AB.int .i64) x5w2.Ar.Bl ++ []))), .AK (some h9.size) 31 (AK AA ([(⟨p9, false, false, false⟩ : AD)] : List AD)), .AK r2 31 (AK AA x4), _, _] F := A.Cp (n := 2) A1
   refine A8 61 hr H fun fr t H => ?_
   refine B1 5 [(23, .ptr (some (bx5w2, 0))), (24, Ai x6)] 1 H fun fr H => AP 1 [(25, .func (.func 6) [] [])] H fun fr H => AR (AF 45 ?_)
   obtain ⟨x7, hx, hm⟩ := bind_some hm
   obtain ⟨v1, h13, hr, rfl, A1⟩ := BO (av := [Ai p0, Ai 1, Ai 4096]) hx (A.cut 0)
   replace A := A.C4 A1
   refine Ap 2 [] 66 hr H fun fr t H => ?_
   refine AG 2 [(68, .bool (!x7))] H fun fr H => ?_
   obtain ⟨x8, ho, hm⟩ := bind_some hm
   refine A9 5 (fun fr' h' => Has fr' 165 [(2, Ai p2), (3, Ai p3), (4, Ai p4), (5, Ai p5), (7, .bool p7), (9, .str p9), (16, .ptr (some (h.size, 0))), (22, Ai (Int.tmod (IntKind.i64.wrap p8) (300 : Int))), (23, .ptr (some (bx5w2, 0))), (24, Ai x6), (25, .func (.func 6) [] []), (73, .bool x8)] ∧ HH g h' [.obj bx5w2 (.cells none 2 [vs AA x5w2.c_.AQ, vs AA x5w2.c_.AS, vs AL x5w2.c_.Bt, .bool x5w2.c_.FT, .bool x5w2.c_.Ay, Ai x5w2.c_.BN, .bool x5w2.c_.Be, Ai x5w2.c_.An.CX, Ai x5w2.c_.An.BS, Ai x5w2.c_.Eu, Ai x5w2.c_.Bf, Ai x5w2.c_.Name, Ai x5w2.c_.Head, Ai x5w2.c_.BF, AH rx5w2_14 x5w2.Aj.length, AH rx5w2_15 x5w2.Ak.length, .ptr (some (bx5w2_16, 0)), .ptr (some (bx5w2_17, 0))]), .AK rx5w2_14 93 (AK (eP AE) x5w2.Aj), .AK rx5w2_15 93 (AK (eP AE) x5w2.Ak), .obj bx5w2_16 (.cells none 2 [AH rx5w2_16_0 x5w2.Aq.l_.length, Ai x5w2.Aq.Cm]), .AK rx5w2_16_0 99 (AK (eP AU) x5w2.Aq.l_), .obj bx5w2_17 (.cells none 2 ([Ai x5w2.Ar.n_, Ai x5w2.Ar.Az] ++ (DC 257 (AB.int .i64) x5w2.Ar.Bl ++ []))), .AK (some h9.size) 31 (AK AA ([(⟨p9, false, false, false⟩ : AD)] : List AD)), .AK r2 31 (AK AA x4), .obj h1.size (.cells none 2 [AH (some h9.size) (([(⟨p9, false, false, false⟩ : AD)] : List AD).length), AH r2 x4.length, .slice none 0, .bool false, .bool false, Ai p5, .bool p7, Ai p6.CX, Ai p6.BS, Ai p3, Ai p4, Ai p0, Ai p1, Ai p2]), .obj h.size (.cells none 2 [Ai p6.CX, Ai p6.BS])] F) ?_ ?_
   ·rcases AZ ho with ⟨hb, hm⟩ | ⟨hb, hm⟩
    ·replace H := H.kn 68 hb
     refine AG 5 [(73, .bool true)] H fun fr H => ?_
     obtain rfl := Ag hm
     exact at_nil ⟨H.ls, A⟩
    replace H := H.kn 68 hb
    obtain ⟨x9, hx, hm⟩ := bind_some hm
    obtain ⟨v1, h15, hr, rfl, A1⟩ := BO (av := [Ai p1, Ai 1, Ai 65536]) hx (A.cut 0)
    replace A := A.C4 A1
    refine Ap 2 [] 71 hr H fun fr t H => ?_
    refine AG 2 [(73, .bool (!x9))] H fun fr H => ?_
    obtain rfl := Ag hm
    exact at_nil ⟨H.ls, A⟩
   clear A
   intro t fr h14 hK
   obtain ⟨H, A⟩ := hK
   refine AG 1 [(74, .bool x8)] H fun fr H => ?_
   obtain ⟨x10, ho, hm⟩ := bind_some hm
   refine A9 5 (fun fr' h' => Has fr' 165 [(3, Ai p3), (4, Ai p4), (5, Ai p5), (7, .bool p7), (9, .str p9), (16, .ptr (some (h.size, 0))), (22, Ai (Int.tmod (IntKind.i64.wrap p8) (300 : Int))), (23, .ptr (some (bx5w2, 0))), (24, Ai x6), (25, .func (.func 6) [] []), (79, .bool x10)] ∧ HH g h' [.obj bx5w2 (.cells none 2 [vs AA x5w2.c_.AQ, vs AA x5w2.c_.AS, vs AL x5w2.c_.Bt, .bool x5w2.c_.FT, .bool x5w2.c_.Ay, Ai x5w2.c_.BN, .bool x5w2.c_.Be, Ai x5w2.c_.An.CX, Ai x5w2.c_.An.BS, Ai x5w2.c_.Eu, Ai x5w2.c_.Bf, Ai x5w2.c_.Name, Ai x5w2.c_.Head, Ai x5w2.c_.BF, AH rx5w2_14 x5w2.Aj.length, AH rx5w2_15 x5w2.Ak.length, .ptr (some (bx5w2_16, 0)), .ptr (some (bx5w2_17, 0))]), .AK rx5w2_14 93 (AK (eP AE) x5w2.Aj), .AK rx5w2_15 93 (AK (eP AE) x5w2.Ak), .obj bx5w2_16 (.cells none 2 [AH rx5w2_16_0 x5w2.Aq.l_.length, Ai x5w2.Aq.Cm]), .AK rx5w2_16_0 99 (AK (eP AU) x5w2.Aq.l_), .obj bx5w2_17 (.cells none 2 ([Ai x5w2.Ar.n_, Ai x5w2.Ar.Az] ++ (DC 257 (AB.int .i64) x5w2.Ar.Bl ++ []))), .AK (some h9.size) 31 (AK AA ([(⟨p9, false, false, false⟩ : AD)] : List AD)), .AK r2 31 (AK AA x4), .obj h1.size (.cells none 2 [AH (some h9.size) (([(⟨p9, false, false, false⟩ : AD)] : List AD).length), AH r2 x4.length, .slice none 0, .bool false, .bool false, Ai p5, .bool p7, Ai p6.CX, Ai p6.BS, Ai p3, Ai p4, Ai p0, Ai p1, Ai p2]), .obj h.size (.cells none 2 [Ai p6.CX, Ai p6.BS])] F) ?_ ?_
   ·rcases AZ ho with ⟨hb, hm⟩ | ⟨hb, hm⟩
    ·replace H := H.kn 74 hb
     refine AG 5 [(79, .bool true)] H fun fr H => ?_
     obtain rfl := Ag hm
     exact at_nil ⟨H.ls, A⟩
    replace H := H.kn 74 hb
    obtain ⟨x11, hx, hm⟩ := bind_some hm
    obtain ⟨v1, h17, hr, rfl, A1⟩ := BO (av := [Ai p2, Ai 1, Ai 4096]) hx (A.cut 0)
    replace A := A.C4 A1
    refine Ap 2 [] 77 hr H fun fr t H => ?_
    refine AG 2 [(79, .bool (!x11))] H fun fr H => ?_
    obtain rfl := Ag hm
    exact at_nil ⟨H.ls, A⟩
   clear A
   intro t fr h16 hK
   obtain ⟨H, A⟩ := hK
   refine AG 1 [(80, .bool x10)] H fun fr H => ?_
   obtain ⟨x12, ho, hm⟩ := bind_some hm
   refine A9 5 (fun fr' h' => Has fr' 165 [(4, Ai p4), (5, Ai p5), (7, .bool p7), (9, .str p9), (16, .ptr (some (h.size, 0))), (22, Ai (Int.tmod (IntKind.i64.wrap p8) (300 : Int))), (23, .ptr (some (bx5w2, 0))), (24, Ai x6), (25, .func (.func 6) [] []), (85, .bool x12)] ∧ HH g h' [.obj bx5w2 (.cells none 2 [vs AA x5w2.c_.AQ, vs AA x5w2.c_.AS, vs AL x5w2.c_.Bt, .bool x5w2.c_.FT, .bool x5w2.c_.Ay, Ai x5w2.c_.BN, .bool x5w2.c_.Be, Ai x5w2.c_.An.CX, Ai x5w2.c_.An.BS, Ai x5w2.c_.Eu, Ai x5w2.c_.Bf, Ai x5w2.c_.Name, Ai x5w2.c_.Head, Ai x5w2.c_.BF, AH rx5w2_14 x5w2.Aj.length, AH rx5w2_15 x5w2.Ak.length, .ptr (some (bx5w2_16, 0)), .ptr (some (bx5w2_17, 0))]), .AK rx5w2_14 93 (AK (eP AE) x5w2.Aj), .AK rx5w2_15 93 (AK (eP AE) x5w2.Ak), .obj bx5w2_16 (.cells none 2 [AH rx5w2_16_0 x5w2.Aq.l_.length, Ai x5w2.Aq.Cm]), .AK rx5w2_16_0 99 (AK (eP AU) x5w2.Aq.l_), .obj bx5w2_17 (.cells none 2 ([Ai x5w2.Ar.n_, Ai x5w2.Ar.Az] ++ (DC 257 (AB.int .i64) x5w2.Ar.Bl ++ []))), .AK (some h9.size) 31 (AK AA ([(⟨p9, false, false, false⟩ : AD)] : List AD)), .AK r2 31 (AK AA x4), .obj h1.size (.cells none 2 [AH (some h9.size) (([(⟨p9, false, false, false⟩ : AD)] : List AD).length), AH r2 x4.length, .slice none 0, .bool false, .bool false, Ai p5, .bool p7, Ai p6.CX, Ai p6.BS, Ai p3, Ai p4, Ai p0, Ai p1, Ai p2]), .obj h.size (.cells none 2 [Ai p6.CX, Ai p6.BS])] F) ?_ ?_
   ·rcases AZ ho with ⟨hb, hm⟩ | ⟨hb, hm⟩
    ·replace H := H.kn 80 hb
     refine AG 5 [(85, .bool true)] H fun fr H => ?_
     obtain rfl := Ag hm
     exact at_nil ⟨H.ls, A⟩
    replace H := H.kn 80 hb
    obtain ⟨x13, hx, hm⟩ := bind_some hm
    obtain ⟨v1, h19, hr, rfl, A1⟩ := BO (av := [Ai p3, Ai 0, Ai 9999]) hx (A.cut 0)
    replace A := A.C4 A1
    refine Ap 2 [] 83 hr H fun fr t H => ?_
    refine AG 2 [(85, .bool (!x13))] H fun fr H => ?_
    obtain rfl := Ag hm
    exact at_nil ⟨H.ls, A⟩
   clear A
   intro t fr h18 hK
   obtain ⟨H, A⟩ := hK
   refine AG 1 [(86, .bool x12)] H fun fr H => ?_
   obtain ⟨x14, ho, hm⟩ := bind_some hm
   refine A9 5 (fun fr' h' => Has fr' 165 [(5, Ai p5), (7, .bool p7), (9, .str p9), (16, .ptr (some (h.size, 0))), (22, Ai (Int.tmod (IntKind.i64.wrap p8) (300 : Int))), (23, .ptr (some (bx5w2, 0))), (24, Ai x6), (25, .func (.func 6) [] []), (91, .bool x14)] ∧ HH g h' [.obj bx5w2 (.cells none 2 [vs AA x5w2.c_.AQ, vs AA x5w2.c_.AS, vs AL x5w2.c_.Bt, .bool x5w2.c_.FT, .bool x5w2.c_.Ay, Ai x5w2.c_.BN, .bool x5w2.c_.Be, Ai x5w2.c_.An.CX, Ai x5w2.c_.An.BS, Ai x5w2.c_.Eu, Ai x5w2.c_.Bf, Ai x5w2.c_.Name, Ai x5w2.c_.Head, Ai x5w2.c_.BF, AH rx5w2_14 x5w2.Aj.length, AH rx5w2_15 x5w2.Ak.length, .ptr (some (bx5w2_16, 0)), .ptr (some (bx5w2_17, 0))]), .AK rx5w2_14 93 (AK (eP AE) x5w2.Aj), .AK rx5w2_15 93 (AK (eP AE) x5w2.Ak), .obj bx5w2_16 (.cells none 2 [AH rx5w2_16_0 x5w2.Aq.l_.length, Ai x5w2.Aq.Cm]), .AK rx5w2_16_0 99 (AK (eP AU) x5w2.Aq.l_), .obj bx5w2_17 (.cells none 2 ([Ai x5w2.Ar.n_, Ai x5w2.Ar.Az] ++ (DC 257 (AB.int .i64) x5w2.Ar.Bl ++ []))), .AK (some h9.size) 31 (AK AA ([(⟨p9, false, false, false⟩ : AD)] : List AD)), .AK r2 31 (AK AA x4), .obj h1.size (.cells none 2 [AH (some h9.size) (([(⟨p9, false, false, false⟩ : AD)] : List AD).length), AH r2 x4.length, .slice none 0, .bool false, .bool false, Ai p5, .bool p7, Ai p6.CX, Ai p6.BS, Ai p3, Ai p4, Ai p0, Ai p1, Ai p2]), .obj h.size (.cells none 2 [Ai p6.CX, Ai p6.BS])] F) ?_ ?_
   ·rcases AZ ho with ⟨hb, hm⟩ | ⟨hb, hm⟩
    ·replace H := H.kn 86 hb
     refine AG 5 [(91, .bool true)] H fun fr H => ?_
     obtain rfl := Ag hm
     exact at_nil ⟨H.ls, A⟩
    replace H := H.kn 86 hb
    obtain ⟨x15, hx, hm⟩ := bind_some hm
    obtain ⟨v1, h21, hr, rfl, A1⟩ := BO (av := [Ai p4, Ai 0, Ai 9999]) hx (A.cut 0)
    replace A := A.C4 A1
    refine Ap 2 [] 89 hr H fun fr t H => ?_
    refine AG 2 [(91, .bool (!x15))] H fun fr H => ?_
    obtain rfl := Ag hm
    exact at_nil ⟨H.ls, A⟩
   clear A
   intro t fr h20 hK
   obtain ⟨H, A⟩ := hK
   refine AG 1 [(92, .bool x14)] H fun fr H => ?_
   obtain ⟨x16, ho, hm⟩ := bind_some hm
   refine A9 5 (fun fr' h' => Has fr' 165 [(7, .bool p7), (9, .str p9), (16, .ptr (some (h.size, 0))), (22, Ai (Int.tmod (IntKind.i64.wrap p8) (300 : Int))), (23, .ptr (some (bx5w2, 0))), (24, Ai x6), (97, .bool x16)] ∧ HH g h' [.obj bx5w2 (.cells none 2 [vs AA x5w2.c_.AQ, vs AA x5w2.c_.AS, vs AL x5w2.c_.Bt, .bool x5w2.c_.FT, .bool x5w2.c_.Ay, Ai x5w2.c_.BN, .bool x5w2.c_.Be, Ai x5w2.c_.An.CX, Ai x5w2.c_.An.BS, Ai x5w2.c_.Eu, Ai x5w2.c_.Bf, Ai x5w2.c_.Name, Ai x5w2.c_.Head, Ai x5w2.c_.BF, AH rx5w2_14 x5w2.Aj.length, AH rx5w2_15 x5w2.Ak.length, .ptr (some (bx5w2_16, 0)), .ptr (some (bx5w2_17, 0))]), .AK rx5w2_14 93 (AK (eP AE) x5w2.Aj), .AK rx5w2_15 93 (AK (eP AE) x5w2.Ak), .obj bx5w2_16 (.cells none 2 [AH rx5w2_16_0 x5w2.Aq.l_.length, Ai x5w2.Aq.Cm]), .AK rx5w2_16_0 99 (AK (eP AU) x5w2.Aq.l_), .obj bx5w2_17 (.cells none 2 ([Ai x5w2.Ar.n_, Ai x5w2.Ar.Az] ++ (DC 257 (AB.int .i64) x5w2.Ar.Bl ++ []))), .AK (some h9.size) 31 (AK AA ([(⟨p9, false, false, false⟩ : AD)] : List AD)), .AK r2 31 (AK AA x4), .obj h1.size (.cells none 2 [AH (some h9.size) (([(⟨p9, false, false, false⟩ : AD)] : List AD).length), AH r2 x4.length, .slice none 0, .bool false, .bool false, Ai p5, .bool p7, Ai p6.CX, Ai p6.BS, Ai p3, Ai p4, Ai p0, Ai p1, Ai p2]), .obj h.size (.cells none 2 [Ai p6.CX, Ai p6.BS])] F) ?_ ?_
   ·rcases AZ ho with ⟨hb, hm⟩ | ⟨hb, hm⟩
    ·replace H := H.kn 92 hb
     refine AG 5 [(97, .bool true)] H fun fr H => ?_
     obtain rfl := Ag hm
     exact at_nil ⟨H.ls, A⟩
    replace H := H.kn 92 hb
    obtain ⟨x17, hx, hm⟩ := bind_some hm
    obtain ⟨v1, h23, hr, rfl, A1⟩ := BO (av := [Ai p5, Ai 0, Ai 3]) hx (A.cut 0)
    replace A := A.C4 A1
    refine Ap 2 [] 95 hr H fun fr t H => ?_
    refine AG 2 [(97, .bool (!x17))] H fun fr H => ?_
    obtain rfl := Ag hm
    exact at_nil ⟨H.ls, A⟩
   clear A
   intro t fr h22 hK
   obtain ⟨H, A⟩ := hK
   refine AG 1 [(98, .bool x16)] H fun fr H => ?_
   obtain ⟨x18, ho, hm⟩ := bind_some hm
   refine A9 10 (fun fr' h' => Has fr' 165 [(9, .str p9), (22, Ai (Int.tmod (IntKind.i64.wrap p8) (300 : Int))), (23, .ptr (some (bx5w2, 0))), (24, Ai x6), (108, .bool x18)] ∧ HH g h' [.obj bx5w2 (.cells none 2 [vs AA x5w2.c_.AQ, vs AA x5w2.c_.AS, vs AL x5w2.c_.Bt, .bool x5w2.c_.FT, .bool x5w2.c_.Ay, Ai x5w2.c_.BN, .bool x5w2.c_.Be, Ai x5w2.c_.An.CX, Ai x5w2.c_.An.BS, Ai x5w2.c_.Eu, Ai x5w2.c_.Bf, Ai x5w2.c_.Name, Ai x5w2.c_.Head, Ai x5w2.c_.BF, AH rx5w2_14 x5w2.Aj.length, AH rx5w2_15 x5w2.Ak.length, .ptr (some (bx5w2_16, 0)), .ptr (some (bx5w2_17, 0))]), .AK rx5w2_14 93 (AK (eP AE) x5w2.Aj), .AK rx5w2_15 93 (AK (eP AE) x5w2.Ak), .obj bx5w2_16 (.cells none 2 [AH rx5w2_16_0 x5w2.Aq.l_.length, Ai x5w2.Aq.Cm]), .AK rx5w2_16_0 99 (AK (eP AU) x5w2.Aq.l_), .obj bx5w2_17 (.cells none 2 ([Ai x5w2.Ar.n_, Ai x5w2.Ar.Az] ++ (DC 257 (AB.int .i64) x5w2.Ar.Bl ++ []))), .AK (some h9.size) 31 (AK AA ([(⟨p9, false, false, false⟩ : AD)] : List AD)), .AK r2 31 (AK AA x4), .obj h1.size (.cells none 2 [AH (some h9.size) (([(⟨p9, false, false, false⟩ : AD)] : List AD).length), AH r2 x4.length, .slice none 0, .bool false, .bool false, Ai p5, .bool p7, Ai p6.CX, Ai p6.BS, Ai p3, Ai p4, Ai p0, Ai p1, Ai p2]), .obj h.size (.cells none 2 [Ai p6.CX, Ai p6.BS])] F) ?_ ?_
   ·rcases AZ ho with ⟨hb, hm⟩ | ⟨hb, hm⟩
    ·replace H := H.kn 98 hb
     refine AG 10 [(108, .bool true)] H fun fr H => ?_
     obtain rfl := Ag hm
     exact at_nil ⟨H.ls, A⟩
    replace H := H.kn 98 hb
    refine AG 2 [(100, .bool p7)] H fun fr H => ?_
    obtain ⟨x19, ho, hm⟩ := bind_some hm
    refine A9 7 (fun fr' h' => Has fr' 165 [(9, .str p9), (22, Ai (Int.tmod (IntKind.i64.wrap p8) (300 : Int))), (23, .ptr (some (bx5w2, 0))), (24, Ai x6), (98, .bool false), (107, .bool x19)] ∧ HH g h' [.obj bx5w2 (.cells none 2 [vs AA x5w2.c_.AQ, vs AA x5w2.c_.AS, vs AL x5w2.c_.Bt, .bool x5w2.c_.FT, .bool x5w2.c_.Ay, Ai x5w2.c_.BN, .bool x5w2.c_.Be, Ai x5w2.c_.An.CX, Ai x5w2.c_.An.BS, Ai x5w2.c_.Eu, Ai x5w2.c_.Bf, Ai x5w2.c_.Name, Ai x5w2.c_.Head, Ai x5w2.c_.BF, AH rx5w2_14 x5w2.Aj.length, AH rx5w2_15 x5w2.Ak.length, .ptr (some (bx5w2_16, 0)), .ptr (some (bx5w2_17, 0))]), .AK rx5w2_14 93 (AK (eP AE) x5w2.Aj), .AK rx5w2_15 93 (AK (eP AE) x5w2.Ak), .obj bx5w2_16 (.cells none 2 [AH rx5w2_16_0 x5w2.Aq.l_.length, Ai x5w2.Aq.Cm]), .AK rx5w2_16_0 99 (AK (eP AU) x5w2.Aq.l_), .obj bx5w2_17 (.cells none 2 ([Ai x5w2.Ar.n_, Ai x5w2.Ar.Az] ++ (DC 257 (AB.int .i64) x5w2.Ar.Bl ++ []))), .AK (some h9.size) 31 (AK AA ([(⟨p9, false, false, false⟩ : AD)] : List AD)), .AK r2 31 (AK AA x4), .obj h1.size (.cells none 2 [AH (some h9.size) (([(⟨p9, false, false, false⟩ : AD)] : List AD).length), AH r2 x4.length, .slice none 0, .bool false, .bool false, Ai p5, .bool p7, Ai p6.CX, Ai p6.BS, Ai p3, Ai p4, Ai p0, Ai p1, Ai p2]), .obj h.size (.cells none 2 [Ai p6.CX, Ai p6.BS])] F) ?_ ?_
    ·rcases AZ ho with ⟨hb, hm⟩ | ⟨hb, hm⟩
     ·replace H := H.kn 100 hb
      refine Ah 1 [] 102 9 0 A H fun fr t H => ?_
      refine Ah 1 [] 104 9 1 A H fun fr t H => ?_
      obtain ⟨x20, hx, hm⟩ := bind_some hm
      obtain ⟨v1, h26, hr, rfl, A1⟩ := HB (av := [Ai p6.CX, Ai p6.BS]) hx (A.cut 0)
      replace A := A.C4 A1
      refine A8 105 hr H fun fr t H => ?_
      refine AG 2 [(107, .bool (!x20))] H fun fr H => ?_
      obtain rfl := Ag hm
      exact at_nil ⟨H.ls, A⟩
     replace H := H.kn 100 hb
     refine AG 7 [(107, .bool false)] H fun fr H => ?_
     obtain rfl := Ag hm
     exact at_nil ⟨H.ls, A⟩
    clear A
    intro t fr h25 hK
    obtain ⟨H, A⟩ := hK
    refine AG 1 [(108, .bool x19)] H fun fr H => ?_
    obtain rfl := Ag hm
    exact at_nil ⟨H.ls, A⟩
   clear A
   intro t fr h24 hK
   obtain ⟨H, A⟩ := hK
   refine BD id (Ae 108 H hm (fun hb hm H => ?_) fun hb hm H => ?_)
   ·refine AF 10 (AP 10 [(20, .bool false)] H fun fr H => AY ?_)
    obtain rfl := Ag hm
    refine ⟨.inl rfl, .bool false, rH H, ?_⟩
    replace A := A.d0
    exact ⟨rfl, A⟩
   refine B0 id (AR (AF 3 (AP 3 [(120, .bool (decide ((IntKind.i64.wrap ((Int.tmod (IntKind.i64.wrap p8) (300 : Int)) + 1)) > 256)))] H fun fr H => Ae 120 H hm (fun hb hm H => ?_) fun hb hm H => ?_)))
   ·refine AF 10 (AP 10 [(20, .bool false)] H fun fr H => AY ?_)
    obtain rfl := Ag hm
    refine ⟨.inl rfl, .bool false, rH H, ?_⟩
    replace A := A.d0
    exact ⟨rfl, A⟩
   refine B0 id (AR (AF 9 ?_))
   obtain ⟨⟨x21, x22, x23⟩, hx, hm⟩ := bind_some hm
   obtain ⟨v1, h27, hr, rqw12, rfl, A1⟩ := HC (av := [.str p9]) hx (A.cut 0)
   replace A := A.Ve A1
   refine Ap 1 [] 132 hr H fun fr t H => ?_
   refine B1 7 [(28, Ai x23)] 2 H fun fr H => AP 2 [(137, .bool (x23 != 0))] H fun fr H => Ae 137 H hm (fun hb hm H => ?_) fun hb hm H => ?_
   ·refine AF 11 (AP 11 [(20, .bool false)] H fun fr H => AY ?_)
    obtain rfl := Ag hm
    refine ⟨.inl rfl, .bool false, rH H, ?_⟩
    replace A := A.d0
    exact ⟨rfl, A⟩
   refine CN 18 id (AG 3 [(150, .bool (x6 == 0))] H fun fr H => A9 3 (fun fr' h' => h27 = h' ∧ Has fr' 165 [(23, .ptr (some (bx5w2, 0))), (24, Ai x6), (153, .bool ((x6 == 0) || false))]) ?_ ?_)
   ·cases hb : (x6 == 0 : Bool) with
    | true =>
     replace H := H.kn 150 hb
     exact AG 3 [(153, .bool true)] H fun fr H => BK H hb
    | false =>
     replace H := H.kn 150 hb
     exact AG 3 [(153, .bool false)] H fun fr H => BK H hb
   intro t fr h' hK
   obtain ⟨e, H⟩ := hK
   subst e
   refine AG 1 [(154, .bool ((x6 == 0) || false))] H fun fr H => A9 7 (fun fr' h' => h27 = h' ∧ Has fr' 165 [(161, .bool (((x6 == 0) || false) || ((x6 == 7) && false)))]) ?_ ?_
   ·cases hb : ((x6 == 0) || false : Bool) with
    | true =>
     replace H := H.kn 154 hb
     exact AG 7 [(161, .bool true)] H fun fr H => BK H hb
    | false =>
     replace H := H.kn 154 hb
     refine AG 3 [(157, .bool (x6 == 7))] H fun fr H => A9 3 (fun fr' h' => h27 = h' ∧ Has fr' 165 [(154, .bool false), (160, .bool ((x6 == 7) && false))]) ?_ ?_
     ·cases hb : (x6 == 7 : Bool) with
      | true =>
       replace H := H.kn 157 hb
       exact AG 3 [(160, .bool false)] H fun fr H => BK H hb
      | false =>
       replace H := H.kn 157 hb
       exact AG 3 [(160, .bool false)] H fun fr H => BK H hb
     intro t fr h' hK
     obtain ⟨e, H⟩ := hK
     subst e
     exact AG 1 [(161, .bool ((x6 == 7) && false))] H fun fr H => BK H hb
   intro t fr h' hK
   obtain ⟨e, H⟩ := hK
   subst e
   refine AG 1 [(162, .bool (((x6 == 0) || false) || ((x6 == 7) && false)))] H fun fr H => ?_
   obtain ⟨x24, ho, hm⟩ := bind_some hm
   refine A9 2 (fun fr' h' => Has fr' 165 [(164, .bool x24)] ∧ HH g h' [.obj bx5w2 (.cells none 2 [vs AA x5w2.c_.AQ, vs AA x5w2.c_.AS, vs AL x5w2.c_.Bt, .bool x5w2.c_.FT, .bool x5w2.c_.Ay, Ai x5w2.c_.BN, .bool x5w2.c_.Be, Ai x5w2.c_.An.CX, Ai x5w2.c_.An.BS, Ai x5w2.c_.Eu, Ai x5w2.c_.Bf, Ai x5w2.c_.Name, Ai x5w2.c_.Head, Ai x5w2.c_.BF, AH rx5w2_14 x5w2.Aj.length, AH rx5w2_15 x5w2.Ak.length, .ptr (some (bx5w2_16, 0)), .ptr (some (bx5w2_17, 0))]), .AK rx5w2_14 93 (AK (eP AE) x5w2.Aj), .AK rx5w2_15 93 (AK (eP AE) x5w2.Ak), .obj bx5w2_16 (.cells none 2 [AH rx5w2_16_0 x5w2.Aq.l_.length, Ai x5w2.Aq.Cm]), .AK rx5w2_16_0 99 (AK (eP AU) x5w2.Aq.l_), .obj bx5w2_17 (.cells none 2 ([Ai x5w2.Ar.n_, Ai x5w2.Ar.Az] ++ (DC 257 (AB.int .i64) x5w2.Ar.Bl ++ []))), .AK (some h9.size) 31 (AK AA ([(⟨p9, false, false, false⟩ : AD)] : List AD)), .AK r2 31 (AK AA x4), .obj h1.size (.cells none 2 [AH (some h9.size) (([(⟨p9, false, false, false⟩ : AD)] : List AD).length), AH r2 x4.length, .slice none 0, .bool false, .bool false, Ai p5, .bool p7, Ai p6.CX, Ai p6.BS, Ai p3, Ai p4, Ai p0, Ai p1, Ai p2]), .obj h.size (.cells none 2 [Ai p6.CX, Ai p6.BS])] F) ?_ ?_
   ·rcases AZ ho with ⟨hb, hm⟩ | ⟨hb, hm⟩
    ·replace H := H.kn 162 hb
     obtain ⟨x25, hx, hm⟩ := bind_some hm
     obtain ⟨v1, h29, hr, rfl, A1⟩ := C9 (av := []) hx (A.cut 0)
     replace A := A.C4 A1
     refine A8 163 hr H fun fr t H => ?_
     refine AG 1 [(164, .bool x25)] H fun fr H => ?_
     obtain rfl := Ag hm
     replace A : HH g h29 [_, _, _, _, _, _, _, _, _, _] F := (HH.Kw ((((((((((A.front 10 rfl).front 10 rfl).front 10 rfl).front 10 rfl).front 10 rfl).front 10 rfl).front 10 rfl).front 10 rfl).front 10 rfl).front 10 rfl) 10)
     exact at_nil ⟨H.ls, A⟩
    replace H := H.kn 162 hb
    refine AG 2 [(164, .bool false)] H fun fr H => ?_
    obtain rfl := Ag hm
    replace A : HH g h27 [_, _, _, _, _, _, _, _, _, _] F := (HH.Kw ((((((((((A.front 10 rfl).front 10 rfl).front 10 rfl).front 10 rfl).front 10 rfl).front 10 rfl).front 10 rfl).front 10 rfl).front 10 rfl).front 10 rfl) 10)
    exact at_nil ⟨H.ls, A⟩
   clear A
   intro t fr h28 hK
   obtain ⟨H, A⟩ := hK
   refine AP 1 [(20, .bool x24)] H fun fr H => AY ?_
   obtain rfl := Ag hm
   refine ⟨.inl rfl, .bool x24, rH H, ?_⟩
   replace A := A.d0
   exact ⟨rfl, A⟩
  replace A : HH g h12 [.AK (some h9.size) 31 (AK AA ([(⟨p9, false, false, false⟩ : AD)] : List AD)), .AK r2 31 (AK AA x4), _, _] F := A.Cp (n := 2) A1
  refine A8 61 hr H fun fr t H => ?_
  refine B1 5 [(23, .ptr none), (24, Ai x6)] 1 H fun fr H => AP 1 [(25, .func (.func 6) [] [])] H fun fr H => AR (AF 45 ?_)
  obtain ⟨x26, hx, hm⟩ := bind_some hm
  obtain ⟨v1, h30, hr, rfl, A1⟩ := BO (av := [Ai p0, Ai 1, Ai 4096]) hx (A.cut 0)
  replace A := A.C4 A1
  refine Ap 2 [] 66 hr H fun fr t H => ?_
  refine AG 2 [(68, .bool (!x26))] H fun fr H => ?_
  obtain ⟨x27, ho, hm⟩ := bind_some hm
  refine A9 5 (fun fr' h' => Has fr' 165 [(2, Ai p2), (3, Ai p3), (4, Ai p4), (5, Ai p5), (7, .bool p7), (9, .str p9), (16, .ptr (some (h.size, 0))), (22, Ai (Int.tmod (IntKind.i64.wrap p8) (300 : Int))), (23, .ptr none), (24, Ai x6), (25, .func (.func 6) [] []), (73, .bool x27)] ∧ HH g h' [.AK (some h9.size) 31 (AK AA ([(⟨p9, false, false, false⟩ : AD)] : List AD)), .AK r2 31 (AK AA x4), .obj h1.size (.cells none 2 [AH (some h9.size) (([(⟨p9, false, false, false⟩ : AD)] : List AD).length), AH r2 x4.length, .slice none 0, .bool false, .bool false, Ai p5, .bool p7, Ai p6.CX, Ai p6.BS, Ai p3, Ai p4, Ai p0, Ai p1, Ai p2]), .obj h.size (.cells none 2 [Ai p6.CX, Ai p6.BS])] F) ?_ ?_
  ·rcases AZ ho with ⟨hb, hm⟩ | ⟨hb, hm⟩
   ·replace H := H.kn 68 hb
    refine AG 5 [(73, .bool true)] H fun fr H => ?_
    obtain rfl := Ag hm
    exact at_nil ⟨H.ls, A⟩
   replace H := H.kn 68 hb
   obtain ⟨x28, hx, hm⟩ := bind_some hm
   obtain ⟨v1, h32, hr, rfl, A1⟩ := BO (av := [Ai p1, Ai 1, Ai 65536]) hx (A.cut 0)
   replace A := A.C4 A1
   refine Ap 2 [] 71 hr H fun fr t H => ?_
   refine AG 2 [(73, .bool (!x28))] H fun fr H => ?_
   obtain rfl := Ag hm
   exact at_nil ⟨H.ls, A⟩
  clear A
  intro t fr h31 hK
  obtain ⟨H, A⟩ := hK
  refine AG 1 [(74, .bool x27)] H fun fr H => ?_
  obtain ⟨x29, ho, hm⟩ := bind_some hm
  refine A9 5 (fun fr' h' => Has fr' 165 [(3, Ai p3), (4, Ai p4), (5, Ai p5), (7, .bool p7), (9, .str p9), (16, .ptr (some (h.size, 0))), (22, Ai (Int.tmod (IntKind.i64.wrap p8) (300 : Int))), (23, .ptr none), (24, Ai x6), (25, .func (.func 6) [] []), (79, .bool x29)] ∧ HH g h' [.AK (some h9.size) 31 (AK AA ([(⟨p9, false, false, false⟩ : AD)] : List AD)), .AK r2 31 (AK AA x4), .obj h1.size (.cells none 2 [AH (some h9.size) (([(⟨p9, false, false, false⟩ : AD)] : List AD).length), AH r2 x4.length, .slice none 0, .bool false, .bool false, Ai p5, .bool p7, Ai p6.CX, Ai p6.BS, Ai p3, Ai p4, Ai p0, Ai p1, Ai p2]), .obj h.size (.cells none 2 [Ai p6.CX, Ai p6.BS])] F) ?_ ?_
  ·rcases AZ ho with ⟨hb, hm⟩ | ⟨hb, hm⟩
   ·replace H := H.kn 74 hb
    refine AG 5 [(79, .bool true)] H fun fr H => ?_
    obtain rfl := Ag hm
    exact at_nil ⟨H.ls, A⟩
   replace H := H.kn 74 hb
   obtain ⟨x30, hx, hm⟩ := bind_some hm
   obtain ⟨v1, h34, hr, rfl, A1⟩ := BO (av := [Ai p2, Ai 1, Ai 4096]) hx (A.cut 0)
   replace A := A.C4 A1
   refine Ap 2 [] 77 hr H fun fr t H => ?_
   refine AG 2 [(79, .bool (!x30))] H fun fr H => ?_
   obtain rfl := Ag hm
   exact at_nil ⟨H.ls, A⟩
  clear A
  intro t fr h33 hK
  obtain ⟨H, A⟩ := hK
  refine AG 1 [(80, .bool x29)] H fun fr H => ?_
  obtain ⟨x31, ho, hm⟩ := bind_some hm
  refine A9 5 (fun fr' h' => Has fr' 165 [(4, Ai p4), (5, Ai p5), (7, .bool p7), (9, .str p9), (16, .ptr (some (h.size, 0))), (22, Ai (Int.tmod (IntKind.i64.wrap p8) (300 : Int))), (23, .ptr none), (24, Ai x6), (25, .func (.func 6) [] []), (85, .bool x31)] ∧ HH g h' [.AK (some h9.size) 31 (AK AA ([(⟨p9, false, false, false⟩ : AD)] : List AD)), .AK r2 31 (AK AA x4), .obj h1.size (.cells none 2 [AH (some h9.size) (([(⟨p9, false, false, false⟩ : AD)] : List AD).length), AH r2 x4.length, .slice none 0, .bool false, .bool false, Ai p5, .bool p7, Ai p6.CX, Ai p6.BS, Ai p3, Ai p4, Ai p0, Ai p1, Ai p2]), .obj h.size (.cells none 2 [Ai p6.CX, Ai p6.BS])] F) ?_ ?_
  ·rcases AZ ho with ⟨hb, hm⟩ | ⟨hb, hm⟩
   ·replace H := H.kn 80 hb
    refine AG 5 [(85, .bool true)] H fun fr H => ?_
    obtain rfl := Ag hm
    exact at_nil ⟨H.ls, A⟩
   replace H := H.kn 80 hb
   obtain ⟨x32, hx, hm⟩ := bind_some hm
   obtain ⟨v1, h36, hr, rfl, A1⟩ := BO (av := [Ai p3, Ai 0, Ai 9999]) hx (A.cut 0)
   replace A := A.C4 A1
   refine Ap 2 [] 83 hr H fun fr t H => ?_
   refine AG 2 [(85, .bool (!x32))] H fun fr H => ?_
   obtain rfl := Ag hm
   exact at_nil ⟨H.ls, A⟩
  clear A
  intro t fr h35 hK
  obtain ⟨H, A⟩ := hK
  refine AG 1 [(86, .bool x31)] H fun fr H => ?_
  obtain ⟨x33, ho, hm⟩ := bind_some hm
  refine A9 5 (fun fr' h' => Has fr' 165 [(5, Ai p5), (7, .bool p7), (9, .str p9), (16, .ptr (some (h.size, 0))), (22, Ai (Int.tmod (IntKind.i64.wrap p8) (300 : Int))), (23, .ptr none), (24, Ai x6), (25, .func (.func 6) [] []), (91, .bool x33)] ∧ HH g h' [.AK (some h9.size) 31 (AK AA ([(⟨p9, false, false, false⟩ : AD)] : List AD)), .AK r2 31 (AK AA x4), .obj h1.size (.cells none 2 [AH (some h9.size) (([(⟨p9, false, false, false⟩ : AD)] : List AD).length), AH r2 x4.length, .slice none 0, .bool false, .bool false, Ai p5, .bool p7, Ai p6.CX, Ai p6.BS, Ai p3, Ai p4, Ai p0, Ai p1, Ai p2]), .obj h.size (.cells none 2 [Ai p6.CX, Ai p6.BS])] F) ?_ ?_
  ·rcases AZ ho with ⟨hb, hm⟩ | ⟨hb, hm⟩
   ·replace H := H.kn 86 hb
    refine AG 5 [(91, .bool true)] H fun fr H => ?_
    obtain rfl := Ag hm
    exact at_nil ⟨H.ls, A⟩
   replace H := H.kn 86 hb
   obtain ⟨x34, hx, hm⟩ := bind_some hm
   obtain ⟨v1, h38, hr, rfl, A1⟩ := BO (av := [Ai p4, Ai 0, Ai 9999]) hx (A.cut 0)
   replace A := A.C4 A1
   refine Ap 2 [] 89 hr H fun fr t H => ?_
   refine AG 2 [(91, .bool (!x34))] H fun fr H => ?_
   obtain rfl := Ag hm
   exact at_nil ⟨H.ls, A⟩
  clear A
  intro t fr h37 hK
  obtain ⟨H, A⟩ := hK
  refine AG 1 [(92, .bool x33)] H fun fr H => ?_
  obtain ⟨x35, ho, hm⟩ := bind_some hm
  refine A9 5 (fun fr' h' => Has fr' 165 [(7, .bool p7), (9, .str p9), (16, .ptr (some (h.size, 0))), (22, Ai (Int.tmod (IntKind.i64.wrap p8) (300 : Int))), (23, .ptr none), (24, Ai x6), (97, .bool x35)] ∧ HH g h' [.AK (some h9.size) 31 (AK AA ([(⟨p9, false, false, false⟩ : AD)] : List AD)), .AK r2 31 (AK AA x4), .obj h1.size (.cells none 2 [AH (some h9.size) (([(⟨p9, false, false, false⟩ : AD)] : List AD).length), AH r2 x4.length, .slice none 0, .bool false, .bool false, Ai p5, .bool p7, Ai p6.CX, Ai p6.BS, Ai p3, Ai p4, Ai p0, Ai p1, Ai p2]), .obj h.size (.cells none 2 [Ai p6.CX, Ai p6.BS])] F) ?_ ?_
  ·rcases AZ ho with ⟨hb, hm⟩ | ⟨hb, hm⟩
   ·replace H := H.kn 92 hb
    refine AG 5 [(97, .bool true)] H fun fr H => ?_
    obtain rfl := Ag hm
    exact at_nil ⟨H.ls, A⟩
   replace H := H.kn 92 hb
   obtain ⟨x36, hx, hm⟩ := bind_some hm
   obtain ⟨v1, h40, hr, rfl, A1⟩ := BO (av := [Ai p5, Ai 0, Ai 3]) hx (A.cut 0)
   replace A := A.C4 A1
   refine Ap 2 [] 95 hr H fun fr t H => ?_
   refine AG 2 [(97, .bool (!x36))] H fun fr H => ?_
   obtain rfl := Ag hm
   exact at_nil ⟨H.ls, A⟩
  clear A
  intro t fr h39 hK
  obtain ⟨H, A⟩ := hK
  refine AG 1 [(98, .bool x35)] H fun fr H => ?_
  obtain ⟨x37, ho, hm⟩ := bind_some hm
  refine A9 10 (fun fr' h' => Has fr' 165 [(9, .str p9), (22, Ai (Int.tmod (IntKind.i64.wrap p8) (300 : Int))), (23, .ptr none), (24, Ai x6), (108, .bool x37)] ∧ HH g h' [.AK (some h9.size) 31 (AK AA ([(⟨p9, false, false, false⟩ : AD)] : List AD)), .AK r2 31 (AK AA x4), .obj h1.size (.cells none 2 [AH (some h9.size) (([(⟨p9, false, false, false⟩ : AD)] : List AD).length), AH r2 x4.length, .slice none 0, .bool false, .bool false, Ai p5, .bool p7, Ai p6.CX, Ai p6.BS, Ai p3, Ai p4, Ai p0, Ai p1, Ai p2]), .obj h.size (.cells none 2 [Ai p6.CX, Ai p6.BS])] F) ?_ ?_
  ·rcases AZ ho with ⟨hb, hm⟩ | ⟨hb, hm⟩
   ·replace H := H.kn 98 hb
    refine AG 10 [(108, .bool true)] H fun fr H => ?_
    obtain rfl := Ag hm
    exact at_nil ⟨H.ls, A⟩
   replace H := H.kn 98 hb
   refine AG 2 [(100, .bool p7)] H fun fr H => ?_
   obtain ⟨x38, ho, hm⟩ := bind_some hm
   refine A9 7 (fun fr' h' => Has fr' 165 [(9, .str p9), (22, Ai (Int.tmod (IntKind.i64.wrap p8) (300 : Int))), (23, .ptr none), (24, Ai x6), (98, .bool false), (107, .bool x38)] ∧ HH g h' [.AK (some h9.size) 31 (AK AA ([(⟨p9, false, false, false⟩ : AD)] : List AD)), .AK r2 31 (AK AA x4), .obj h1.size (.cells none 2 [AH (some h9.size) (([(⟨p9, false, false, false⟩ : AD)] : List AD).length), AH r2 x4.length, .slice none 0, .bool false, .bool false, Ai p5, .bool p7, Ai p6.CX, Ai p6.BS, Ai p3, Ai p4, Ai p0, Ai p1, Ai p2]), .obj h.size (.cells none 2 [Ai p6.CX, Ai p6.BS])] F) ?_ ?_
   ·rcases AZ ho with ⟨hb, hm⟩ | ⟨hb, hm⟩
    ·replace H := H.kn 100 hb
     refine Ah 1 [] 102 3 0 A H fun fr t H => ?_
     refine Ah 1 [] 104 3 1 A H fun fr t H => ?_
     obtain ⟨x39, hx, hm⟩ := bind_some hm
     obtain ⟨v1, h43, hr, rfl, A1⟩ := HB (av := [Ai p6.CX, Ai p6.BS]) hx (A.cut 0)
     replace A := A.C4 A1
     refine A8 105 hr H fun fr t H => ?_
     refine AG 2 [(107, .bool (!x39))] H fun fr H => ?_
     obtain rfl := Ag hm
     exact at_nil ⟨H.ls, A⟩
    replace H := H.kn 100 hb
    refine AG 7 [(107, .bool false)] H fun fr H => ?_
    obtain rfl := Ag hm
    exact at_nil ⟨H.ls, A⟩
   clear A
   intro t fr h42 hK
   obtain ⟨H, A⟩ := hK
   refine AG 1 [(108, .bool x38)] H fun fr H => ?_
   obtain rfl := Ag hm
   exact at_nil ⟨H.ls, A⟩
  clear A
  intro t fr h41 hK
  obtain ⟨H, A⟩ := hK
  refine BD id (Ae 108 H hm (fun hb hm H => ?_) fun hb hm H => ?_)
  ·refine AF 10 (AG 7 [(115, .bool (x6 == 6))] H fun fr H => ?_)
   obtain ⟨x40, ho, hm⟩ := bind_some hm
   refine A9 2 (fun fr' h' => Has fr' 165 [(117, .bool x40)] ∧ HH g h' [.AK (some h9.size) 31 (AK AA ([(⟨p9, false, false, false⟩ : AD)] : List AD)), .AK r2 31 (AK AA x4), .obj h1.size (.cells none 2 [AH (some h9.size) (([(⟨p9, false, false, false⟩ : AD)] : List AD).length), AH r2 x4.length, .slice none 0, .bool false, .bool false, Ai p5, .bool p7, Ai p6.CX, Ai p6.BS, Ai p3, Ai p4, Ai p0, Ai p1, Ai p2]), .obj h.size (.cells none 2 [Ai p6.CX, Ai p6.BS])] F) ?_ ?_
   ·rcases AZ ho with ⟨hb, hm⟩ | ⟨hb, hm⟩
    ·replace H := H.kn 115 hb
     obtain ⟨x41, hx, hm⟩ := bind_some hm
     obtain ⟨v1, h45, hr, rfl, A1⟩ := C9 (av := []) hx (A.cut 0)
     replace A := A.C4 A1
     refine A8 116 hr H fun fr t H => ?_
     refine AG 1 [(117, .bool x41)] H fun fr H => ?_
     obtain rfl := Ag hm
     exact at_nil ⟨H.ls, A⟩
    replace H := H.kn 115 hb
    refine AG 2 [(117, .bool false)] H fun fr H => ?_
    obtain rfl := Ag hm
    exact at_nil ⟨H.ls, A⟩
   clear A
   intro t fr h44 hK
   obtain ⟨H, A⟩ := hK
   refine AP 1 [(20, .bool x40)] H fun fr H => AY ?_
   obtain rfl := Ag hm
   refine ⟨.inl rfl, .bool x40, rH H, ?_⟩
   replace A := A.d0
   exact ⟨rfl, A⟩
  refine B0 id (AR (AF 3 (AP 3 [(120, .bool (decide ((IntKind.i64.wrap ((Int.tmod (IntKind.i64.wrap p8) (300 : Int)) + 1)) > 256)))] H fun fr H => Ae 120 H hm (fun hb hm H => ?_) fun hb hm H => ?_)))
  ·refine AF 10 (AG 7 [(127, .bool (x6 == 8))] H fun fr H => ?_)
   obtain ⟨x42, ho, hm⟩ := bind_some hm
   refine A9 2 (fun fr' h' => Has fr' 165 [(129, .bool x42)] ∧ HH g h' [.AK (some h9.size) 31 (AK AA ([(⟨p9, false, false, false⟩ : AD)] : List AD)), .AK r2 31 (AK AA x4), .obj h1.size (.cells none 2 [AH (some h9.size) (([(⟨p9, false, false, false⟩ : AD)] : List AD).length), AH r2 x4.length, .slice none 0, .bool false, .bool false, Ai p5, .bool p7, Ai p6.CX, Ai p6.BS, Ai p3, Ai p4, Ai p0, Ai p1, Ai p2]), .obj h.size (.cells none 2 [Ai p6.CX, Ai p6.BS])] F) ?_ ?_
   ·rcases AZ ho with ⟨hb, hm⟩ | ⟨hb, hm⟩
    ·replace H := H.kn 127 hb
     obtain ⟨x43, hx, hm⟩ := bind_some hm
     obtain ⟨v1, h47, hr, rfl, A1⟩ := C9 (av := []) hx (A.cut 0)
     replace A := A.C4 A1
     refine A8 128 hr H fun fr t H => ?_
     refine AG 1 [(129, .bool x43)] H fun fr H => ?_
     obtain rfl := Ag hm
     exact at_nil ⟨H.ls, A⟩
    replace H := H.kn 127 hb
    refine AG 2 [(129, .bool false)] H fun fr H => ?_
    obtain rfl := Ag hm
    exact at_nil ⟨H.ls, A⟩
   clear A
   intro t fr h46 hK
   obtain ⟨H, A⟩ := hK
   refine AP 1 [(20, .bool x42)] H fun fr H => AY ?_
   obtain rfl := Ag hm
   refine ⟨.inl rfl, .bool x42, rH H, ?_⟩
   replace A := A.d0
   exact ⟨rfl, A⟩
  refine B0 id (AR (AF 9 ?_))
  obtain ⟨⟨x44, x45, x46⟩, hx, hm⟩ := bind_some hm
  obtain ⟨v1, h48, hr, rqw25, rfl, A1⟩ := HC (av := [.str p9]) hx (A.cut 0)
  replace A := A.Ve A1
  refine Ap 1 [] 132 hr H fun fr t H => ?_
  refine B1 7 [(28, Ai x46)] 2 H fun fr H => AP 2 [(137, .bool (x46 != 0))] H fun fr H => Ae 137 H hm (fun hb hm H => ?_) fun hb hm H => ?_
  ·refine AF 11 (AG 8 [(145, .bool (x6 == x46))] H fun fr H => ?_)
   obtain ⟨x47, ho, hm⟩ := bind_some hm
   refine A9 2 (fun fr' h' => Has fr' 165 [(147, .bool x47)] ∧ HH g h' [.AK (some h9.size) 31 (AK AA ([(⟨p9, false, false, false⟩ : AD)] : List AD)), .AK r2 31 (AK AA x4), .obj h1.size (.cells none 2 [AH (some h9.size) (([(⟨p9, false, false, false⟩ : AD)] : List AD).length), AH r2 x4.length, .slice none 0, .bool false, .bool false, Ai p5, .bool p7, Ai p6.CX, Ai p6.BS, Ai p3, Ai p4, Ai p0, Ai p1, Ai p2]), .obj h.size (.cells none 2 [Ai p6.CX, Ai p6.BS])] F) ?_ ?_
   ·rcases AZ ho with ⟨hb, hm⟩ | ⟨hb, hm⟩
    ·replace H := H.kn 145 hb
     obtain ⟨x48, hx, hm⟩ := bind_some hm
     obtain ⟨v1, h50, hr, rfl, A1⟩ := C9 (av := []) hx (A.cut 0)
     replace A := A.C4 A1
     refine A8 146 hr H fun fr t H => ?_
     refine AG 1 [(147, .bool x48)] H fun fr H => ?_
     obtain rfl := Ag hm
     replace A := A.k4 1 2 3 4
     exact at_nil ⟨H.ls, A⟩
    replace H := H.kn 145 hb
    refine AG 2 [(147, .bool false)] H fun fr H => ?_
    obtain rfl := Ag hm
    replace A := A.k4 1 2 3 4
    exact at_nil ⟨H.ls, A⟩
   clear A
   intro t fr h49 hK
   obtain ⟨H, A⟩ := hK
   refine AP 1 [(20, .bool x47)] H fun fr H => AY ?_
   obtain rfl := Ag hm
   refine ⟨.inl rfl, .bool x47, rH H, ?_⟩
   replace A := A.d0
   exact ⟨rfl, A⟩
  refine CN 18 id (AG 3 [(150, .bool (x6 == 0))] H fun fr H => A9 3 (fun fr' h' => h48 = h' ∧ Has fr' 165 [(23, .ptr none), (24, Ai x6), (153, .bool ((x6 == 0) && false))]) ?_ ?_)
  ·cases hb : (x6 == 0 : Bool) with
   | true =>
    replace H := H.kn 150 hb
    exact AG 3 [(153, .bool false)] H fun fr H => BK H hb
   | false =>
    replace H := H.kn 150 hb
    exact AG 3 [(153, .bool false)] H fun fr H => BK H hb
  intro t fr h' hK
  obtain ⟨e, H⟩ := hK
  subst e
  refine AG 1 [(154, .bool ((x6 == 0) && false))] H fun fr H => A9 7 (fun fr' h' => h48 = h' ∧ Has fr' 165 [(161, .bool (((x6 == 0) && false) || ((x6 == 7) || false)))]) ?_ ?_
  ·cases hb : ((x6 == 0) && false : Bool) with
   | true =>
    replace H := H.kn 154 hb
    exact AG 7 [(161, .bool true)] H fun fr H => BK H hb
   | false =>
    replace H := H.kn 154 hb
    refine AG 3 [(157, .bool (x6 == 7))] H fun fr H => A9 3 (fun fr' h' => h48 = h' ∧ Has fr' 165 [(154, .bool false), (160, .bool ((x6 == 7) || false))]) ?_ ?_
    ·cases hb : (x6 == 7 : Bool) with
     | true =>
      replace H := H.kn 157 hb
      exact AG 3 [(160, .bool true)] H fun fr H => BK H hb
     | false =>
      replace H := H.kn 157 hb
      exact AG 3 [(160, .bool false)] H fun fr H => BK H hb
    intro t fr h' hK
    obtain ⟨e, H⟩ := hK
    subst e
    exact AG 1 [(161, .bool ((x6 == 7) || false))] H fun fr H => BK H hb
  intro t fr h' hK
  obtain ⟨e, H⟩ := hK
  subst e
  refine AG 1 [(162, .bool (((x6 == 0) && false) || ((x6 == 7) || false)))] H fun fr H => ?_
  obtain ⟨x49, ho, hm⟩ := bind_some hm
  refine A9 2 (fun fr' h' => Has fr' 165 [(164, .bool x49)] ∧ HH g h' [.AK (some h9.size) 31 (AK AA ([(⟨p9, false, false, false⟩ : AD)] : List AD)), .AK r2 31 (AK AA x4), .obj h1.size (.cells none 2 [AH (some h9.size) (([(⟨p9, false, false, false⟩ : AD)] : List AD).length), AH r2 x4.length, .slice none 0, .bool false, .bool false, Ai p5, .bool p7, Ai p6.CX, Ai p6.BS, Ai p3, Ai p4, Ai p0, Ai p1, Ai p2]), .obj h.size (.cells none 2 [Ai p6.CX, Ai p6.BS])] F) ?_ ?_
  ·rcases AZ ho with ⟨hb, hm⟩ | ⟨hb, hm⟩
   ·replace H := H.kn 162 hb
    obtain ⟨x50, hx, hm⟩ := bind_some hm
    obtain ⟨v1, h52, hr, rfl, A1⟩ := C9 (av := []) hx (A.cut 0)
    replace A := A.C4 A1
    refine A8 163 hr H fun fr t H => ?_
    refine AG 1 [(164, .bool x50)] H fun fr H => ?_
    obtain rfl := Ag hm
    replace A := A.k4 1 2 3 4
    exact at_nil ⟨H.ls, A⟩
   replace H := H.kn 162 hb
   refine AG 2 [(164, .bool false)] H fun fr H => ?_
   obtain rfl := Ag hm
   replace A := A.k4 1 2 3 4
   exact at_nil ⟨H.ls, A⟩
  clear A
  intro t fr h51 hK
  obtain ⟨H, A⟩ := hK
  refine AP 1 [(20, .bool x49)] H fun fr H => AY ?_
  obtain rfl := Ag hm
  refine ⟨.inl rfl, .bool x49, rH H, ?_⟩
  replace A := A.d0
  exact ⟨rfl, A⟩
 exact hF.elim
end
end Go.Av.L
