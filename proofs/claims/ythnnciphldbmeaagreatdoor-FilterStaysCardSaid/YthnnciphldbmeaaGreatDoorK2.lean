/-
 Models of functions, and that the abstract run tells them. Written by lift2.py.
-/
import Derived.Test.YthnnciphldbmeaaGreatDoorKCfg
import Derived.Test.YthnnciphldbmeaaGreatDoorK0
import Derived.Test.YthnnciphldbmeaaGreatDoorK1
namespace Go.Av.L
open Go.Av Go.Lib
set_option maxRecDepth 10000
set_option maxHeartbeats 4000000
set_option linter.unusedVariables false
set_option linter.unusedSimpArgs false
variable {g : Gd} {h : AM} {F : List Ck} {av : List AD}
noncomputable section
def Gf (p0 : List UInt8) : Option ((List UInt8)) :=
 Af ((p0 == ([] : List UInt8)) || (([0] : List UInt8) == ([] : List UInt8))) (some p0) ((DH p0 (0 : Int)).bind fun x1 => (EF x1 (0 : Int)).bind fun x2 => some x2)
theorem Lr {p0 q0} (hm : Gf p0 = some q0) (A : HH g h [] F) (hc : BH (cfg.still 248) av = [.str p0, .str ([0] : List UInt8)] := by kernel_rfl) : ∃ v h', BN cfg g h 248 av v h' ∧ v = .str q0 ∧ HH g h' [] F := by
 refine Dr 43 [.tmp 4] hc ?_
 clear hc
 unfold Gf at hm
 refine bg 43 [(0, .str p0), (1, .str ([0] : List UInt8))] fun fr H => ?_
 refine AH 1 (AP 1 [] H fun fr H => AV (AH 6 (AG 3 [(9, .bool (p0 == ([] : List UInt8)))] H fun fr H => Aq 3 (fun fr' h' => h = h' ∧ Has fr' 43 [(0, .str p0), (1, .str ([0] : List UInt8)), (12, .bool ((p0 == ([] : List UInt8)) || (([0] : List UInt8) == ([] : List UInt8))))]) ?_ ?_)))
 ·cases hb : (p0 == ([] : List UInt8) : Bool) with
  | true =>
   replace H := H.kn 9 hb
   exact AG 3 [(12, .bool true)] H fun fr H => Ap H hb
  | false =>
   replace H := H.kn 9 hb
   exact AG 3 [(12, .bool (([0] : List UInt8) == ([] : List UInt8)))] H fun fr H => Ap H hb
 intro t fr h' hK
 obtain ⟨e, H⟩ := hK
 subst e
 refine BF id (Ak 12 H hm (fun hb hm H => ?_) fun hb hm H => ?_)
 ·refine AH 2 (AP 2 [(4, .str p0)] H fun fr H => AY ?_)
  obtain rfl := Ag hm
  exact ⟨.inl rfl, _, rH H, rfl, A⟩
 refine Br id (AV (AH 8 (AP 8 [(21, .bool true)] H fun fr H => GI (x := .tmp 21) (by kernel_rfl) H (fun fr => by kernel_rfl) ?_)))
 refine AV (FF 4 8 ?_)
 obtain ⟨x1, hx, hm⟩ := bind_some hm
 obtain ⟨v1, h1, hr, rfl, A1⟩ := GY (av := [.str p0, Ab 0]) hx (A.cut 0)
 replace A := A.E8 A1
 refine BD 3 [] 25 hr H fun fr t H => ?_
 obtain ⟨x2, hx, hm⟩ := bind_some hm
 obtain ⟨v1, h2, hr, rfl, A1⟩ := Gx (av := [.str x1, Ab 0]) hx (A.cut 0)
 replace A := A.E8 A1
 refine BD 2 [] 28 hr H fun fr t H => ?_
 refine AP 1 [(4, .str x2)] H fun fr H => AY ?_
 obtain rfl := Ag hm
 exact ⟨.inl rfl, _, rH H, rfl, A⟩
def Cn (p0 : B7) (p1 : List UInt8) : Option (Int × Bool × (List Bool) × (List ((List UInt8) × Int)) × (List (List UInt8))) :=
 (Gf p1).bind fun x1 => Af (x1 == ([] : List UInt8)) (some ((-1 : Int), true, p0.t_.A9, p0.CH, p0.B2)) (Af ((Ew p0.CH p1).isSome) (some (((Ew p0.CH p1).getD (0 : Int)), true, p0.t_.A9, p0.CH, p0.B2)) (Af ((p0.t_.A9.length : Int) == p0.Ej) (some ((0 : Int), false, p0.t_.A9, p0.CH, p0.B2)) ((P1 p1 (CE .i64 (p0.l_.length : Int) (3 : Int))).bind fun x2 => Fh (decide (0 ≤ (CR .i64 (p0.l_.length : Int) (7 : Int)))) <| Fh (Np 1 (p0.t_.A9.length + ([(CR .u8 (CE .u8 x2 (CR .i64 (p0.l_.length : Int) (7 : Int))) (1 : Int)) == 1] : List Bool).length)) <| Fh (Np 16 (p0.B2.length + ([p1] : List (List UInt8)).length)) <| some (IntKind.i32.wrap (p0.t_.A9.length : Int), true, (p0.t_.A9 ++ ([(CR .u8 (CE .u8 x2 (CR .i64 (p0.l_.length : Int) (7 : Int))) (1 : Int)) == 1] : List Bool)), (It p0.CH p1 (IntKind.i32.wrap (p0.t_.A9.length : Int))), (p0.B2 ++ ([p1] : List (List UInt8)))))))
theorem FE {p0 p1 bp0 rp0_0 bp0_4 rp0_4_2 rp0_4_3 rp0_5 bp0_6 rp0_7 q0 q1 u4 u6 u7} (hm : Cn p0 p1 = some (q0, q1, u4, u6, u7)) (A : HH g h [.obj bp0 (.cells none 2 [AF rp0_0 p0.l_.length, .bool p0.f_.Fold, .bool p0.f_.A0, Ai p0.Ej, .ptr (some (bp0_4, 0)), AF rp0_5 p0.Dc.length, .map (some bp0_6), AF rp0_7 p0.B2.length]), .AL rp0_0 264 (AL AN p0.l_), .obj bp0_4 (.cells none 2 (CW 256 (AD.int .u8) p0.t_.BV ++ [Ai p0.t_.An, AF rp0_4_2 p0.t_.BT.length, AF rp0_4_3 p0.t_.A9.length])), .AL rp0_4_2 21 (AL (eI .i32) p0.t_.BT), .AL rp0_4_3 4 (AL eB p0.t_.A9), .AL rp0_5 5 (AL eY p0.Dc), .obj bp0_6 (.map 2 (BZ (fun k : List UInt8 => .str k) (fun v : Int => .int .i32 v) p0.CH)), .AL rp0_7 9 (AL eS p0.B2)] F) (hc : BH (cfg.still 181) av = [.ptr (some (bp0, 0)), .str p1] := by kernel_rfl) : ∃ v h', BN cfg g h 181 av v h' ∧ ∃ (r'4 : Option Nat) (r'7 : Option Nat), v = .tuple [.int .i32 q0, .bool q1] ∧ HH g h' [.obj bp0 (.cells none 2 [AF rp0_0 p0.l_.length, .bool p0.f_.Fold, .bool p0.f_.A0, Ai p0.Ej, .ptr (some (bp0_4, 0)), AF rp0_5 p0.Dc.length, .map (some bp0_6), AF r'7 u7.length]), .AL rp0_0 264 (AL AN p0.l_), .obj bp0_4 (.cells none 2 (CW 256 (AD.int .u8) p0.t_.BV ++ [Ai p0.t_.An, AF rp0_4_2 p0.t_.BT.length, AF r'4 u4.length])), .AL rp0_4_2 21 (AL (eI .i32) p0.t_.BT), .AL r'4 4 (AL eB u4), .AL rp0_5 5 (AL eY p0.Dc), .obj bp0_6 (.map 2 (BZ (fun k : List UInt8 => .str k) (fun v : Int => .int .i32 v) u6)), .AL r'7 9 (AL eS u7)] F := by
 refine Dr 92 [.tmp 4, .tmp 5] hc ?_
 clear hc
 unfold Cn at hm
 refine bg 92 [(0, .ptr (some (bp0, 0))), (1, .str p1)] fun fr H => ?_
 refine AH 2 (AP 2 [] H fun fr H => AV (AH 3 ?_))
 obtain ⟨x1, hx, hm⟩ := bind_some hm
 obtain ⟨v1, h1, hr, rfl, A1⟩ := Lr (av := [.str p1, .str ([0] : List UInt8)]) hx (A.cut 0)
 replace A := A.E8 A1
 refine BD 1 [] 11 hr H fun fr t H => ?_
 refine AP 1 [(12, .bool (x1 == ([] : List UInt8)))] H fun fr H => Ak 12 H hm (fun hb hm H => ?_) fun hb hm H => ?_
 ·refine AH 2 (AP 2 [(4, .int .i32 (-1)), (5, .bool true)] H fun fr H => AY ?_)
  obtain ⟨rfl, rfl, rfl, rfl, rfl⟩ := Ve hm
  exact ⟨.inl rfl, _, rH H, _, _, rfl, A⟩
 refine Br id (AV (AH 11 (AZ 3 [] 17 0 6 A H fun fr t H => ?_)))
 refine Ax 1 [] 19 (.tuple [.int .i32 ((Ew p0.CH p1).getD (0 : Int)), .bool ((Ew p0.CH p1).isSome)]) h1 H (fun fr => .of (TG (by kernel_rfl) (HH.TJ (kt := 9) (et := 21) (ek := fun k : List UInt8 => .str k) (ev := fun v : Int => .int .i32 v) (Rg (by kernel_rfl)) A 6 rfl (t := 273) (by kernel_rfl) (z := (0 : Int)) (by kernel_rfl) p1))) fun fr t H => ?_
 refine Bn 5 [(6, .int .i32 ((Ew p0.CH p1).getD (0 : Int))), (7, .bool ((Ew p0.CH p1).isSome))] 1 H fun fr H => AP 1 [(22, .bool ((Ew p0.CH p1).isSome))] H fun fr H => Ak 22 H hm (fun hb hm H => ?_) fun hb hm H => ?_
 ·refine AH 3 (AP 3 [(4, .int .i32 ((Ew p0.CH p1).getD (0 : Int))), (5, .bool true)] H fun fr H => AY ?_)
  obtain ⟨rfl, rfl, rfl, rfl, rfl⟩ := Ve hm
  exact ⟨.inl rfl, _, rH H, _, _, rfl, A⟩
 refine Br id (AV (AV (FF 6 13 ?_)))
 refine AZ 3 [] 27 0 4 A H fun fr t H => ?_
 refine Ax 2 [] 30 (AF rp0_4_3 p0.t_.A9.length) h1 H (fun fr => .of (DU (by kernel_rfl) (A.N6 2 rfl (o := 258) (by kernel_rfl)))) fun fr t H => ?_
 refine AZ 4 [(31, Ai (p0.t_.A9.length : Int))] 35 0 3 A H fun fr t H => ?_
 refine AP 1 [(36, .bool ((p0.t_.A9.length : Int) == p0.Ej))] H fun fr H => Ak 36 H hm (fun hb hm H => ?_) fun hb hm H => ?_
 ·refine AH 2 (AP 2 [(4, .int .i32 0), (5, .bool false)] H fun fr H => AY ?_)
  obtain ⟨rfl, rfl, rfl, rfl, rfl⟩ := Ve hm
  exact ⟨.inl rfl, _, rH H, _, _, rfl, A⟩
 refine Cc 10 id (AZ 3 [] 40 0 4 A H fun fr t H => ?_)
 refine Ax 2 [] 43 (AF rp0_4_3 p0.t_.A9.length) h1 H (fun fr => .of (DU (by kernel_rfl) (A.N6 2 rfl (o := 258) (by kernel_rfl)))) fun fr t H => ?_
 refine Bn 3 [(8, .int .i32 (IntKind.i32.wrap (p0.t_.A9.length : Int)))] 6 H fun fr H => AZ 3 [] 49 0 0 A H fun fr t H => ?_
 refine Bn 2 [(9, Ai (p0.l_.length : Int))] 7 H fun fr H => AZ 3 [] 54 0 6 A H fun fr t H => ?_
 refine AG 2 [(55, .str p1), (56, .int .i32 (IntKind.i32.wrap (p0.t_.A9.length : Int)))] H fun fr H => ?_
 obtain ⟨h2, hx, A1⟩ := HH.WB (kt := 9) (et := 21) (ek := fun k : List UInt8 => .str k) (ev := fun v : Int => .int .i32 v) (Rg (by kernel_rfl)) A 6 rfl (t := 273) (by kernel_rfl) p1 (IntKind.i32.wrap (p0.t_.A9.length : Int))
 replace A : HH g h2 [_, _, _, _, _, _, .obj bp0_6 (.map 2 (BZ (fun k : List UInt8 => .str k) (fun v : Int => .int .i32 v) (It p0.CH p1 (IntKind.i32.wrap (p0.t_.A9.length : Int))))), _] F := A1
 refine Mv (.tuple []) h2 H (fun fr => .of (Ty (by kernel_rfl) hx)) fun fr t H => ?_
 refine BF id (AV (Kg 11 25 [(0, []), (1, []), (2, []), (3, []), (4, []), (5, []), (6, []), (7, []), (8, []), (9, []), (10, []), (11, []), (12, []), (13, []), (14, []), (15, []), (16, []), (17, []), (18, []), (19, []), (20, []), (21, [3]), (22, []), (23, []), (24, [])] ?_))
 refine AG 3 [(59, .ptr (some (bp0, 4)))] H fun fr H => CO 60 (.ptr (some (bp0_4, 0))) h2 [(3, bp0)] (g.Bm) H (fun fr => .of (DU (by kernel_rfl) (A.l1 0 4))) (fun fr H => ?_)
 refine AG 3 [(63, .ptr (some (bp0, 4)))] H fun fr H => CO 64 (.ptr (some (bp0_4, 0))) h2 [(7, bp0), (3, bp0)] (g.Bm) H (fun fr => .of (DU (by kernel_rfl) (A.l1 0 4))) (fun fr H => ?_)
 refine AG 2 [(66, .ptr (some (bp0_4, 258)))] H fun fr H => CO 67 (AF rp0_4_3 p0.t_.A9.length) h2 [(10, bp0_4), (7, bp0), (3, bp0)] (g.Bm) H (fun fr => .of (DU (by kernel_rfl) (A.N6 2 rfl (o := 258) (by kernel_rfl)))) (fun fr H => ?_)
 refine AG 3 [(68, .str p1), (70, Ai (CE .i64 (p0.l_.length : Int) (3 : Int)))] H fun fr H => ?_
 obtain ⟨x2, hx, hm⟩ := bind_some hm
 refine CO 71 (Ab x2) h2 [(10, bp0_4), (7, bp0), (3, bp0)] (g.Bm) H (fun fr => .of (Iy (by kernel_rfl) hx)) (fun fr H => ?_)
 refine AG 2 [(73, Ai (CR .i64 (p0.l_.length : Int) (7 : Int)))] H fun fr H => ?_
 obtain ⟨hb, hm⟩ := BQ hm
 refine CO 74 (Ab (CE .u8 x2 (CR .i64 (p0.l_.length : Int) (7 : Int)))) h2 [(10, bp0_4), (7, bp0), (3, bp0)] (g.Bm) H (fun fr => .of (TE (by kernel_rfl) hb)) (fun fr H => ?_)
 refine AG 2 [(76, .bool ((CR .u8 (CE .u8 x2 (CR .i64 (p0.l_.length : Int) (7 : Int))) (1 : Int)) == 1))] H fun fr H => ?_
 obtain ⟨h3, e1, A⟩ := A.pL 4 [.bool ((CR .u8 (CE .u8 x2 (CR .i64 (p0.l_.length : Int) (7 : Int))) (1 : Int)) == 1)]
 refine CO 77 (AF (some h2.size) (([(CR .u8 (CE .u8 x2 (CR .i64 (p0.l_.length : Int) (7 : Int))) (1 : Int)) == 1] : List Bool).length)) h3 [(20, h2.size), (10, bp0_4), (7, bp0), (3, bp0)] (g.Bm) H (fun fr => .of (VS (by kernel_rfl) (congrArg some e1.symm))) (fun fr H => ?_)
 replace A : HH g h3 [_, .AL (some h2.size) 4 ([.bool ((CR .u8 (CE .u8 x2 (CR .i64 (p0.l_.length : Int) (7 : Int))) (1 : Int)) == 1)]), _, _, _, _, _, _, _] F := (A.front 5 rfl)
 have A1 := A.G4 1 (pr := [bp0]) (.cons 1 rfl (by simp [Ck.ids]) .nil)
 obtain ⟨hb, hm⟩ := BQ hm
 obtain ⟨r1, h4, hx, A1⟩ := HH.Lo WZ (by decide) A1 0 (xs := p0.t_.A9) (ys := ([(CR .u8 (CE .u8 x2 (CR .i64 (p0.l_.length : Int) (7 : Int))) (1 : Int)) == 1] : List Bool)) rfl (DM A 1 rfl (n := ([(CR .u8 (CE .u8 x2 (CR .i64 (p0.l_.length : Int) (7 : Int))) (1 : Int)) == 1] : List Bool).length) (z := 1) rfl (by decide)) rfl rfl hb
 replace A := A.Wm A1
 replace A := A.k8 0 2 3 4 5 6 7 8
 refine CO 78 (AF r1 ((p0.t_.A9 ++ ([(CR .u8 (CE .u8 x2 (CR .i64 (p0.l_.length : Int) (7 : Int))) (1 : Int)) == 1] : List Bool)).length)) h4 [(20, h2.size), (10, bp0_4), (7, bp0), (3, bp0)] (bp0 :: g.Bm) H (fun fr => .of (IE (s := DP rp0_4_3 p0.t_.A9.length) (by kernel_rfl) hx)) (fun fr H => ?_)
 refine AG 2 [(80, .ptr (some (bp0_4, 258)))] H fun fr H => ?_
 obtain ⟨h5, hx, A1⟩ := A.st 3 rfl (o := 258) (new := [AF r1 ((p0.t_.A9 ++ ([(CR .u8 (CE .u8 x2 (CR .i64 (p0.l_.length : Int) (7 : Int))) (1 : Int)) == 1] : List Bool)).length)]) (ds := (CW 256 (AD.int .u8) p0.t_.BV ++ ([Ai p0.t_.An, AF rp0_4_2 p0.t_.BT.length, AF r1 ((p0.t_.A9 ++ ([(CR .u8 (CE .u8 x2 (CR .i64 (p0.l_.length : Int) (7 : Int))) (1 : Int)) == 1] : List Bool)).length)]))) (Nat.le_of_ble_eq_true (by kernel_rfl)) rfl (by kernel_rfl)
 replace A : HH g h5 [_, _, _, .obj bp0_4 (.cells none 2 (CW 256 (AD.int .u8) p0.t_.BV ++ ([Ai p0.t_.An, AF rp0_4_2 p0.t_.BT.length, AF r1 ((p0.t_.A9 ++ ([(CR .u8 (CE .u8 x2 (CR .i64 (p0.l_.length : Int) (7 : Int))) (1 : Int)) == 1] : List Bool)).length)]))), _, _, _, _] F := A1
 refine I7 (.tuple []) h5 [(20, h2.size), (10, bp0_4), (7, bp0), (3, bp0)] (g.Bm) H (fun fr => .of (MT (by kernel_rfl) rfl hx)) (fun fr H => ?_)
 refine Cb 11 id (AZ 4 [(81, .ptr (some (bp0, 0)))] 85 1 7 A H fun fr t H => ?_)
 refine AG 1 [(86, .str p1)] H fun fr H => ?_
 obtain ⟨h6, e2, A⟩ := A.pL 9 [.str p1]
 refine A7 87 (AF (some h5.size) (([p1] : List (List UInt8)).length)) e2 H fun fr t H => ?_
 obtain ⟨hb, hm⟩ := BQ hm
 obtain ⟨r2, h7, hx, A1⟩ := HH.Lo encS (by decide) A 8 (xs := p0.B2) (ys := ([p1] : List (List UInt8))) rfl (DM A 0 rfl (n := ([p1] : List (List UInt8)).length) (z := 1) rfl (by decide)) rfl rfl hb
 replace A : HH g h7 [.AL (some h5.size) 9 ([.str p1]), _, _, _, _, _, _, _, .AL r2 9 (AL eS (p0.B2 ++ ([p1] : List (List UInt8))))] F := A1
 replace A := A.k8 1 2 3 4 5 6 7 8
 refine As 88 _ _ H (fun fr => .of (IE (s := DP rp0_7 p0.B2.length) (by kernel_rfl) hx)) fun fr t H => ?_
 obtain ⟨h8, hx, A1⟩ := A.st 1 rfl (o := 7) (new := [AF r2 ((p0.B2 ++ ([p1] : List (List UInt8))).length)]) (ds := [AF rp0_0 p0.l_.length, .bool p0.f_.Fold, .bool p0.f_.A0, Ai p0.Ej, .ptr (some (bp0_4, 0)), AF rp0_5 p0.Dc.length, .map (some bp0_6), AF r2 ((p0.B2 ++ ([p1] : List (List UInt8))).length)]) (Nat.le_of_ble_eq_true rfl) rfl rfl
 replace A : HH g h8 [_, .obj bp0 (.cells none 2 [_, _, _, _, _, _, _, AF r2 ((p0.B2 ++ ([p1] : List (List UInt8))).length)]), _, _, _, _, _, _] F := A1
 refine FH 2 [] hx H fun fr t H => ?_
 refine Cb 3 id (AP 3 [(4, .int .i32 (IntKind.i32.wrap (p0.t_.A9.length : Int))), (5, .bool true)] H fun fr H => AY ?_)
 obtain ⟨rfl, rfl, rfl, rfl, rfl⟩ := Ve hm
 refine ⟨.inl rfl, .tuple [.int .i32 (IntKind.i32.wrap (p0.t_.A9.length : Int)), .bool true], rH H, ?_⟩
 replace A := A.k8 1 2 3 4 0 5 6 7
 exact ⟨r1, r2, rfl, A⟩
def Ei (p0 : B7) (p1 : List UInt8) (p2 : Int) (s : (List UInt8) × Int) : Option (((List UInt8) × Int) ⊕ (((List UInt8)))) :=
 match s with
 | (x1, x2) => Af (decide (x2 < (p0.l_.length : Int))) (((GP p0.l_ x2).bind fun x5 => (P1 p1 (CE .i64 x2 (3 : Int))).bind fun x6 => Fh (decide (0 ≤ (CR .i64 x2 (7 : Int)))) <| Af ((CR .u8 (CE .u8 x6 (CR .i64 x2 (7 : Int))) (1 : Int)) == 0) (some x1) (Af ((x5.Kind == 4) && (p0.f_.A0 || (p2 != 47))) ((GP x1 (CE .i64 x2 (3 : Int))).bind fun x7 => Fh (decide (0 ≤ (CR .i64 x2 (7 : Int)))) <| (GP x1 (CE .i64 x2 (3 : Int))).bind fun x8 => (Wx (Nf .u8 (x7.toNat : Int) (Kh .u8 (1 : Int) (CR .i64 x2 (7 : Int))))).bind fun x9 => some (x1.set (CE .i64 x2 (3 : Int)).toNat x9)) ((Af (x5.Kind != 4) ((C0 p0 x5 p2).bind fun x11 => some x11) (some false) : Option (Bool)).bind fun x10 => Af x10 ((GP x1 (CE .i64 (IntKind.i64.wrap (x2 + 1)) (3 : Int))).bind fun x12 => Fh (decide (0 ≤ (CR .i64 (IntKind.i64.wrap (x2 + 1)) (7 : Int)))) <| (GP x1 (CE .i64 (IntKind.i64.wrap (x2 + 1)) (3 : Int))).bind fun x13 => (Wx (Nf .u8 (x12.toNat : Int) (Kh .u8 (1 : Int) (CR .i64 (IntKind.i64.wrap (x2 + 1)) (7 : Int))))).bind fun x14 => some (x1.set (CE .i64 (IntKind.i64.wrap (x2 + 1)) (3 : Int)).toNat x14)) (some x1))) : Option (((List UInt8)))).bind fun x4 => some (.inl (x4, IntKind.i64.wrap (x2 + 1)))) (some (.inr x1))
def Di (p0 : B7) (p1 : List UInt8) (p2 : Int) : Option ((List UInt8)) :=
 Fh (X6 1 (p1.length : Int)) <| (loop (Ei p0 p1 p2) ((List.replicate (p1.length : Int).toNat (0 : UInt8)), (0 : Int))).bind fun x3 => (Cm p0 x3).bind fun (x15, x16) => some x15
theorem HS {p0 p1 p2 bp0 rp0_0 bp0_4 rp0_4_2 rp0_4_3 rp0_5 bp0_6 rp0_7 q0} (hm : Di p0 p1 p2 = some q0) (A : HH g h [.obj bp0 (.cells none 2 [AF rp0_0 p0.l_.length, .bool p0.f_.Fold, .bool p0.f_.A0, Ai p0.Ej, .ptr (some (bp0_4, 0)), AF rp0_5 p0.Dc.length, .map (some bp0_6), AF rp0_7 p0.B2.length]), .AL rp0_0 264 (AL AN p0.l_), .obj bp0_4 (.cells none 2 (CW 256 (AD.int .u8) p0.t_.BV ++ [Ai p0.t_.An, AF rp0_4_2 p0.t_.BT.length, AF rp0_4_3 p0.t_.A9.length])), .AL rp0_4_2 21 (AL (eI .i32) p0.t_.BT), .AL rp0_4_3 4 (AL eB p0.t_.A9), .AL rp0_5 5 (AL eY p0.Dc), .obj bp0_6 (.map 2 (BZ (fun k : List UInt8 => .str k) (fun v : Int => .int .i32 v) p0.CH)), .AL rp0_7 9 (AL eS p0.B2)] F) (hc : BH (cfg.still 183) av = [.ptr (some (bp0, 0)), .str p1, Ab p2] := by kernel_rfl) : ∃ v h', BN cfg g h 183 av v h' ∧ v = .str q0 ∧ HH g h' [.obj bp0 (.cells none 2 [AF rp0_0 p0.l_.length, .bool p0.f_.Fold, .bool p0.f_.A0, Ai p0.Ej, .ptr (some (bp0_4, 0)), AF rp0_5 p0.Dc.length, .map (some bp0_6), AF rp0_7 p0.B2.length]), .AL rp0_0 264 (AL AN p0.l_), .obj bp0_4 (.cells none 2 (CW 256 (AD.int .u8) p0.t_.BV ++ [Ai p0.t_.An, AF rp0_4_2 p0.t_.BT.length, AF rp0_4_3 p0.t_.A9.length])), .AL rp0_4_2 21 (AL (eI .i32) p0.t_.BT), .AL rp0_4_3 4 (AL eB p0.t_.A9), .AL rp0_5 5 (AL eY p0.Dc), .obj bp0_6 (.map 2 (BZ (fun k : List UInt8 => .str k) (fun v : Int => .int .i32 v) p0.CH)), .AL rp0_7 9 (AL eS p0.B2)] F := by
 refine Dr 83 [.tmp 6] hc ?_
 clear hc
 unfold Di at hm
 refine bg 83 [(0, .ptr (some (bp0, 0))), (1, .str p1), (2, Ab p2)] fun fr H => ?_
 refine AH 1 (Bn 1 [] 4 H fun fr H => ?_)
 obtain ⟨hb, hm⟩ := BQ hm
 obtain ⟨h1, e1, A⟩ := A.pL 5 (AL eY (List.replicate (p1.length : Int).toNat (0 : UInt8)))
 refine Ax 2 [] 12 (AF (some h.size) (List.replicate (p1.length : Int).toNat (0 : UInt8)).length) h1 H (fun fr => .of (VJ (e := eY) HQ (x := (0 : UInt8)) (by kernel_rfl) hb (congrArg some e1.symm))) fun fr t H => ?_
 refine AP 1 [(7, AF (some h.size) ((List.replicate (p1.length : Int).toNat (0 : UInt8)).length))] H fun fr H => AV (AH 6 (AZ 3 [] 16 1 0 A H fun fr t H => ?_))
 refine AP 2 [(17, Ai (p0.l_.length : Int)), (18, Ai 0)] H fun fr H => Aa (id := 0) (by kernel_rfl) ?_
 obtain ⟨o1, ho, hm⟩ := bind_some hm
 refine BG (Q' := fun e fr' h' => (∃ x3, e = .exit 0 ∧ x3 = o1 ∧ ∃ (hl2 : x3.length = (List.replicate (p1.length : Int).toNat (0 : UInt8)).length), Has fr' 83 [(0, .ptr (some (bp0, 0))), (7, AF (some h.size) x3.length)] ∧ HH g h' [.AL (some h.size) 5 (AL eY x3), .obj bp0 (.cells none 2 [AF rp0_0 p0.l_.length, .bool p0.f_.Fold, .bool p0.f_.A0, Ai p0.Ej, .ptr (some (bp0_4, 0)), AF rp0_5 p0.Dc.length, .map (some bp0_6), AF rp0_7 p0.B2.length]), .AL rp0_0 264 (AL AN p0.l_), .obj bp0_4 (.cells none 2 (CW 256 (AD.int .u8) p0.t_.BV ++ [Ai p0.t_.An, AF rp0_4_2 p0.t_.BT.length, AF rp0_4_3 p0.t_.A9.length])), .AL rp0_4_2 21 (AL (eI .i32) p0.t_.BT), .AL rp0_4_3 4 (AL eB p0.t_.A9), .AL rp0_5 5 (AL eY p0.Dc), .obj bp0_6 (.map 2 (BZ (fun k : List UInt8 => .str k) (fun v : Int => .int .i32 v) p0.CH)), .AL rp0_7 9 (AL eS p0.B2)] F) ∨ False) ?_ ?_
 ·refine Bv (by kernel_rfl) (fun (s : (List UInt8) × Int) fr' h' => ∃ x1 x2, (x1, x2) = s ∧ ∃ (hl1 : x1.length = (List.replicate (p1.length : Int).toNat (0 : UInt8)).length), Has fr' 83 [(0, .ptr (some (bp0, 0))), (1, .str p1), (2, Ab p2), (7, AF (some h.size) x1.length), (16, AF rp0_0 p0.l_.length), (17, Ai (p0.l_.length : Int)), (18, Ai x2)] ∧ HH g h' [.AL (some h.size) 5 (AL eY x1), .obj bp0 (.cells none 2 [AF rp0_0 p0.l_.length, .bool p0.f_.Fold, .bool p0.f_.A0, Ai p0.Ej, .ptr (some (bp0_4, 0)), AF rp0_5 p0.Dc.length, .map (some bp0_6), AF rp0_7 p0.B2.length]), .AL rp0_0 264 (AL AN p0.l_), .obj bp0_4 (.cells none 2 (CW 256 (AD.int .u8) p0.t_.BV ++ [Ai p0.t_.An, AF rp0_4_2 p0.t_.BT.length, AF rp0_4_3 p0.t_.A9.length])), .AL rp0_4_2 21 (AL (eI .i32) p0.t_.BT), .AL rp0_4_3 4 (AL eB p0.t_.A9), .AL rp0_5 5 (AL eY p0.Dc), .obj bp0_6 (.map 2 (BZ (fun k : List UInt8 => .str k) (fun v : Int => .int .i32 v) p0.CH)), .AL rp0_7 9 (AL eS p0.B2)] F) ho ⟨_, _, rfl, rfl, H.ls, A⟩ ?_
  clear ho hm H A
  intro s q fr h2 hI hm
  obtain ⟨x1, x2, rfl, hl1, H, A⟩ := hI
  unfold Ei at hm
  refine AH 1 (AP 1 [(19, .bool (decide (x2 < (p0.l_.length : Int))))] H fun fr H => AV (Ak 19 H hm (fun hb hm H => ?_) fun hb hm H => ?_))
  ·refine Br id (AV ?_)
   obtain ⟨o2, ho, hm⟩ := bind_some hm
   refine BG (Q' := fun e fr' h' => (∃ x4, e = .normal ∧ x4 = o2 ∧ ∃ (hl3 : x4.length = (List.replicate (p1.length : Int).toNat (0 : UInt8)).length), Has fr' 83 [(0, .ptr (some (bp0, 0))), (1, .str p1), (2, Ab p2), (7, AF (some h.size) x4.length), (16, AF rp0_0 p0.l_.length), (17, Ai (p0.l_.length : Int)), (18, Ai x2)] ∧ HH g h' [.AL (some h.size) 5 (AL eY x4), .obj bp0 (.cells none 2 [AF rp0_0 p0.l_.length, .bool p0.f_.Fold, .bool p0.f_.A0, Ai p0.Ej, .ptr (some (bp0_4, 0)), AF rp0_5 p0.Dc.length, .map (some bp0_6), AF rp0_7 p0.B2.length]), .AL rp0_0 264 (AL AN p0.l_), .obj bp0_4 (.cells none 2 (CW 256 (AD.int .u8) p0.t_.BV ++ [Ai p0.t_.An, AF rp0_4_2 p0.t_.BT.length, AF rp0_4_3 p0.t_.A9.length])), .AL rp0_4_2 21 (AL (eI .i32) p0.t_.BT), .AL rp0_4_3 4 (AL eB p0.t_.A9), .AL rp0_5 5 (AL eY p0.Dc), .obj bp0_6 (.map 2 (BZ (fun k : List UInt8 => .str k) (fun v : Int => .int .i32 v) p0.CH)), .AL rp0_7 9 (AL eS p0.B2)] F) ∨ False) ?_ ?_
   ·replace hm := ho
    clear ho
    refine Aa (id := 1) (by kernel_rfl) ?_
    refine AH 6 ?_
    obtain ⟨x5, hx, hm⟩ := bind_some hm
    obtain ⟨i1, er1, _, hx, hq1⟩ := HH.Ll Bt (by decide) A 2 (xs := p0.l_) rfl hx
    refine Ax 1 [(20, Ai x2)] 21 (.ptr (some (i1, x2.toNat * 6))) h2 H (fun fr => .of (D7 (s := DP rp0_0 p0.l_.length) (by kernel_rfl) hx)) fun fr t H => ?_
    refine As 22 _ _ H (fun fr => .of (B5 (by kernel_rfl) (IS Bt (HH.row A 2 rfl er1) hq1 0 6 (Nat.le_of_ble_eq_true rfl)))) fun fr t H => ?_
    obtain ⟨h3, e2, A⟩ := A.pu (.cells none 2 [Ai 0, Ab 0, Au 0, Au 0, Au 0, Au 0])
    refine A7 9 (.ptr (some (h2.size, 0))) e2 H fun fr t H => ?_
    obtain ⟨h4, hx, A⟩ := A.s0 0 (AN x5) [_, _, _, _, _, _]
    refine Fs 1 [(8, Ai x2)] hx H fun fr t H => ?_
    refine BF id (AV (AH 9 ?_))
    obtain ⟨x6, hx, hm⟩ := bind_some hm
    refine Ax 3 [] 26 (Ab x6) h4 H (fun fr => .of (Iy (by kernel_rfl) hx)) fun fr t H => ?_
    refine AG 2 [(28, Ai (CR .i64 x2 (7 : Int)))] H fun fr H => ?_
    obtain ⟨hb, hm⟩ := BQ hm
    refine As 29 (Ab (CE .u8 x6 (CR .i64 x2 (7 : Int)))) h4 H (fun fr => .of (TE (by kernel_rfl) hb)) fun fr t H => ?_
    refine AP 2 [(31, .bool ((CR .u8 (CE .u8 x6 (CR .i64 x2 (7 : Int))) (1 : Int)) == 0))] H fun fr H => Ak 31 H hm (fun hb hm H => ?_) fun hb hm H => ?_
    ·refine Bh (i := 1) (by kernel_rfl) ?_
     replace A := A.k9 1 2 3 4 5 6 7 8 9
     exact .inl ⟨_, rfl, Ag hm, hl1, H.ls, A⟩
    refine Br id (Aa (id := 2) (by kernel_rfl) ?_)
    refine AH 15 (AZ 1 [] 34 0 0 A H fun fr t H => ?_)
    refine AG 2 [(36, .bool (x5.Kind == 4))] H fun fr H => Aq 10 (fun fr' h' => h4 = h' ∧ Has fr' 83 [(0, .ptr (some (bp0, 0))), (1, .str p1), (2, Ab p2), (7, AF (some h.size) x1.length), (8, Ai x2), (9, .ptr (some (h2.size, 0))), (16, AF rp0_0 p0.l_.length), (17, Ai (p0.l_.length : Int)), (18, Ai x2), (46, .bool ((x5.Kind == 4) && (p0.f_.A0 || (p2 != 47))))]) ?_ ?_
    ·cases hb : (x5.Kind == 4 : Bool) with
     | true =>
      replace H := H.kn 36 hb
      refine AZ 4 [] 41 2 2 A H fun fr t H => ?_
      refine AG 1 [(42, .bool p0.f_.A0)] H fun fr H => Aq 3 (fun fr' h' => h4 = h' ∧ Has fr' 83 [(0, .ptr (some (bp0, 0))), (1, .str p1), (2, Ab p2), (7, AF (some h.size) x1.length), (8, Ai x2), (9, .ptr (some (h2.size, 0))), (16, AF rp0_0 p0.l_.length), (17, Ai (p0.l_.length : Int)), (18, Ai x2), (36, .bool true), (45, .bool (p0.f_.A0 || (p2 != 47)))]) ?_ ?_
      ·cases hb : (p0.f_.A0 : Bool) with
       | true =>
        replace H := H.kn 42 hb
        exact AG 3 [(45, .bool true)] H fun fr H => Ap H hb
       | false =>
        replace H := H.kn 42 hb
        exact AG 3 [(45, .bool (p2 != 47))] H fun fr H => Ap H hb
      intro t fr h' hK
      obtain ⟨e, H⟩ := hK
      subst e
      exact AG 1 [(46, .bool (p0.f_.A0 || (p2 != 47)))] H fun fr H => Ap H hb
     | false =>
      replace H := H.kn 36 hb
      exact AG 10 [(46, .bool false)] H fun fr H => Ap H hb
    intro t fr h' hK
    obtain ⟨e, H⟩ := hK
    subst e
    refine AP 1 [(32, .bool ((x5.Kind == 4) && (p0.f_.A0 || (p2 != 47))))] H fun fr H => Ak 32 H hm (fun hb hm H => ?_) fun hb hm H => ?_
    ·refine FF 7 11 ?_
     obtain ⟨x7, hx, hm⟩ := bind_some hm
     obtain ⟨i2, er2, _, hx, hq2⟩ := HH.Ll HQ (by decide) A 1 (xs := x1) rfl hx
     refine Ax 3 [(47, AF (some h.size) x1.length), (49, Ai (CE .i64 x2 (3 : Int)))] 50 (.ptr (some (i2, (CE .i64 x2 (3 : Int)).toNat * 1))) h4 H (fun fr => .of (D7 (s := DP (some h.size) x1.length) (by kernel_rfl) hx)) fun fr t H => ?_
     refine As 51 _ _ H (fun fr => .of (DU (by kernel_rfl) (EP HQ (HH.row A 1 rfl er2) hq2 (o := 0) rfl))) fun fr t H => ?_
     refine AG 2 [(53, Ai (CR .i64 x2 (7 : Int)))] H fun fr H => ?_
     obtain ⟨hb, hm⟩ := BQ hm
     refine As 54 (Ab (Kh .u8 (1 : Int) (CR .i64 x2 (7 : Int)))) h4 H (fun fr => .of (UR (by kernel_rfl) hb)) fun fr t H => ?_
     obtain ⟨x8, hx, hm⟩ := bind_some hm
     obtain ⟨i3, er3, _, hx, hq3⟩ := HH.Ll HQ (by decide) A 1 (xs := x1) rfl hx
     refine Ax 1 [(55, Ab (Nf .u8 (x7.toNat : Int) (Kh .u8 (1 : Int) (CR .i64 x2 (7 : Int)))))] 56 (.ptr (some (i3, (CE .i64 x2 (3 : Int)).toNat * 1))) h4 H (fun fr => .of (D7 (s := DP (some h.size) x1.length) (by kernel_rfl) hx)) fun fr t H => ?_
     obtain ⟨x9, hx, hm⟩ := bind_some hm
     have hx := Oz hx
     rw [hx] at H
     obtain ⟨h5, hx, A1⟩ := HH.XG HQ A 1 rfl er3 hq3 (y := x9) (o := 0) (new := [Ab (x9.toNat : Int)]) rfl rfl (Nat.le_of_ble_eq_true rfl)
     have hl4 : (x1.set (CE .i64 x2 (3 : Int)).toNat x9).length = (List.replicate (p1.length : Int).toNat (0 : UInt8)).length := List.length_set.trans hl1
     have el : AF (some h.size) x1.length = AF (some h.size) (x1.set (CE .i64 x2 (3 : Int)).toNat x9).length := congrArg _ List.length_set.symm
     try rw [el] at H
     try rw [el] at A1
     replace A : HH g h5 [_, .AL (some h.size) 5 (AL eY (x1.set (CE .i64 x2 (3 : Int)).toNat x9)), _, _, _, _, _, _, _, _] F := A1
     refine Ep hx H fun fr t H => ?_
     refine at_nil ?_
     replace A := A.k9 1 2 3 4 5 6 7 8 9
     exact .inl ⟨_, rfl, Ag hm, hl4, H.ls, A⟩
    refine AH 10 (AZ 1 [] 59 0 0 A H fun fr t H => ?_)
    refine AG 2 [(61, .bool (x5.Kind != 4))] H fun fr H => ?_
    obtain ⟨x10, ho, hm⟩ := bind_some hm
    refine Aq 5 (fun fr' h' => Has fr' 83 [(0, .ptr (some (bp0, 0))), (1, .str p1), (2, Ab p2), (7, AF (some h.size) x1.length), (8, Ai x2), (16, AF rp0_0 p0.l_.length), (17, Ai (p0.l_.length : Int)), (18, Ai x2), (66, .bool x10)] ∧ HH g h' [.obj h2.size (.cells none 2 (AN x5)), .AL (some h.size) 5 (AL eY x1), .obj bp0 (.cells none 2 [AF rp0_0 p0.l_.length, .bool p0.f_.Fold, .bool p0.f_.A0, Ai p0.Ej, .ptr (some (bp0_4, 0)), AF rp0_5 p0.Dc.length, .map (some bp0_6), AF rp0_7 p0.B2.length]), .AL rp0_0 264 (AL AN p0.l_), .obj bp0_4 (.cells none 2 (CW 256 (AD.int .u8) p0.t_.BV ++ [Ai p0.t_.An, AF rp0_4_2 p0.t_.BT.length, AF rp0_4_3 p0.t_.A9.length])), .AL rp0_4_2 21 (AL (eI .i32) p0.t_.BT), .AL rp0_4_3 4 (AL eB p0.t_.A9), .AL rp0_5 5 (AL eY p0.Dc), .obj bp0_6 (.map 2 (BZ (fun k : List UInt8 => .str k) (fun v : Int => .int .i32 v) p0.CH)), .AL rp0_7 9 (AL eS p0.B2)] F) ?_ ?_
    ·rcases Ac ho with ⟨hb, hm⟩ | ⟨hb, hm⟩
     ·replace H := H.kn 61 hb
      refine Ax 1 [(62, .ptr (some (bp0, 0)))] 63 _ _ H (fun fr => .of (B5 (by kernel_rfl) (A.GQ 0 rfl (o := 0) (n := 6) ⟨Nat.le_of_ble_eq_true rfl, rfl⟩))) fun fr t H => ?_
      replace A : HH g h4 [_, _, _, _, _, _, _, _, _, _] F := ((((((((A.front 9 rfl).front 9 rfl).front 9 rfl).front 9 rfl).front 9 rfl).front 9 rfl).front 9 rfl).front 9 rfl)
      obtain ⟨x11, hx, hm⟩ := bind_some hm
      obtain ⟨v1, h7, hr, rfl, A1⟩ := FP (av := [.ptr (some (bp0, 0)), .agg (AN x5), Ab p2]) hx (A.cut 8)
      replace A : HH g h7 [.obj bp0 (.cells none 2 [_, _, _, _, _, _, _, _]), .AL rp0_0 264 (AL AN p0.l_), .obj bp0_4 (.cells none 2 (CW 256 (AD.int .u8) p0.t_.BV ++ [Ai p0.t_.An, AF rp0_4_2 p0.t_.BT.length, AF rp0_4_3 p0.t_.A9.length])), .AL rp0_4_2 21 (AL (eI .i32) p0.t_.BT), .AL rp0_4_3 4 (AL eB p0.t_.A9), .AL rp0_5 5 (AL eY p0.Dc), .obj bp0_6 (.map 2 (BZ (fun k : List UInt8 => .str k) (fun v : Int => .int .i32 v) p0.CH)), .AL rp0_7 9 (AL eS p0.B2), _, _] F := A.CY (n := 8) A1
      refine BD 1 [] 65 hr H fun fr t H => ?_
      refine AG 1 [(66, .bool x11)] H fun fr H => ?_
      obtain rfl := Ag hm
      replace A : HH g h7 [_, _, _, _, _, _, _, _, _, _] F := ((((((((((A.front 7 rfl).front 7 rfl).front 7 rfl).front 7 rfl).front 7 rfl).front 7 rfl).front 7 rfl).front 7 rfl).front 9 rfl).front 9 rfl)
      exact at_nil ⟨H.ls, A⟩
     replace H := H.kn 61 hb
     refine AG 5 [(66, .bool false)] H fun fr H => ?_
     obtain rfl := Ag hm
     exact at_nil ⟨H.ls, A⟩
    clear A
    intro t fr h6 hK
    obtain ⟨H, A⟩ := hK
    refine AP 1 [(57, .bool x10)] H fun fr H => Ak 57 H hm (fun hb hm H => ?_) fun hb hm H => ?_
    ·refine FF 9 13 ?_
     obtain ⟨x12, hx, hm⟩ := bind_some hm
     obtain ⟨i4, er4, _, hx, hq4⟩ := HH.Ll HQ (by decide) A 1 (xs := x1) rfl hx
     refine Ax 4 [(67, AF (some h.size) x1.length), (70, Ai (CE .i64 (IntKind.i64.wrap (x2 + 1)) (3 : Int)))] 71 (.ptr (some (i4, (CE .i64 (IntKind.i64.wrap (x2 + 1)) (3 : Int)).toNat * 1))) h6 H (fun fr => .of (D7 (s := DP (some h.size) x1.length) (by kernel_rfl) hx)) fun fr t H => ?_
     refine As 72 _ _ H (fun fr => .of (DU (by kernel_rfl) (EP HQ (HH.row A 1 rfl er4) hq4 (o := 0) rfl))) fun fr t H => ?_
     refine AG 3 [(75, Ai (CR .i64 (IntKind.i64.wrap (x2 + 1)) (7 : Int)))] H fun fr H => ?_
     obtain ⟨hb, hm⟩ := BQ hm
     refine As 76 (Ab (Kh .u8 (1 : Int) (CR .i64 (IntKind.i64.wrap (x2 + 1)) (7 : Int)))) h6 H (fun fr => .of (UR (by kernel_rfl) hb)) fun fr t H => ?_
     obtain ⟨x13, hx, hm⟩ := bind_some hm
     obtain ⟨i5, er5, _, hx, hq5⟩ := HH.Ll HQ (by decide) A 1 (xs := x1) rfl hx
     refine Ax 1 [(77, Ab (Nf .u8 (x12.toNat : Int) (Kh .u8 (1 : Int) (CR .i64 (IntKind.i64.wrap (x2 + 1)) (7 : Int)))))] 78 (.ptr (some (i5, (CE .i64 (IntKind.i64.wrap (x2 + 1)) (3 : Int)).toNat * 1))) h6 H (fun fr => .of (D7 (s := DP (some h.size) x1.length) (by kernel_rfl) hx)) fun fr t H => ?_
     obtain ⟨x14, hx, hm⟩ := bind_some hm
     have hx := Oz hx
     rw [hx] at H
     obtain ⟨h8, hx, A1⟩ := HH.XG HQ A 1 rfl er5 hq5 (y := x14) (o := 0) (new := [Ab (x14.toNat : Int)]) rfl rfl (Nat.le_of_ble_eq_true rfl)
     have hl5 : (x1.set (CE .i64 (IntKind.i64.wrap (x2 + 1)) (3 : Int)).toNat x14).length = (List.replicate (p1.length : Int).toNat (0 : UInt8)).length := List.length_set.trans hl1
     have el : AF (some h.size) x1.length = AF (some h.size) (x1.set (CE .i64 (IntKind.i64.wrap (x2 + 1)) (3 : Int)).toNat x14).length := congrArg _ List.length_set.symm
     try rw [el] at H
     try rw [el] at A1
     replace A : HH g h8 [_, .AL (some h.size) 5 (AL eY (x1.set (CE .i64 (IntKind.i64.wrap (x2 + 1)) (3 : Int)).toNat x14)), _, _, _, _, _, _, _, _] F := A1
     refine Ep hx H fun fr t H => ?_
     refine at_nil ?_
     replace A := A.k9 1 2 3 4 5 6 7 8 9
     exact .inl ⟨_, rfl, Ag hm, hl5, H.ls, A⟩
    refine HG ?_
    replace A := A.k9 1 2 3 4 5 6 7 8 9
    exact .inl ⟨_, rfl, Ag hm, hl1, H.ls, A⟩
   clear ho
   clear A
   intro e fr h9 hQ
   rcases hQ with ⟨x4, rfl, rfl, hl3, H, A⟩ | hF
   ·show AW _ _ _ _ _ _ _
    refine ED 2 (Bk 2 [(0, .ptr (some (bp0, 0))), (1, .str p1), (2, Ab p2), (7, AF (some h.size) x4.length), (16, AF rp0_0 p0.l_.length), (17, Ai (p0.l_.length : Int)), (18, Ai (IntKind.i64.wrap (x2 + 1)))] H fun fr H => at_nil ?_)
    exact nx hm ⟨_, _, rfl, hl3, H.ls, A⟩
   exact hF.elim
  refine Bh (i := 0) (by kernel_rfl) ?_
  exact nr hm fun e => .inl ⟨_, rfl, e, hl1, H.ls, A⟩
 clear ho
 clear A
 intro e fr h10 hQ
 rcases hQ with ⟨x3, rfl, rfl, hl2, H, A⟩ | hF
 ·show AW _ _ _ _ _ _ _
  refine AH 4 ?_
  replace A := A.k9 1 2 3 4 5 6 7 8 0
  obtain ⟨⟨x15, x16⟩, hx, hm⟩ := bind_some hm
  obtain ⟨v1, h11, hr, hl6, rfl, A1⟩ := FC (av := [.ptr (some (bp0, 0)), AF (some h.size) x3.length]) hx (A.cut 9)
  have hl7 : x16.length = (List.replicate (p1.length : Int).toNat (0 : UInt8)).length := hl6.trans hl2
  have el : AF (some h.size) x3.length = AF (some h.size) x16.length := congrArg _ hl6.symm
  try rw [el] at H
  try rw [el] at hr
  try rw [el] at A1
  replace A : HH g h11 [.obj bp0 (.cells none 2 [_, _, _, _, _, _, _, _]), .AL rp0_0 264 (AL AN p0.l_), .obj bp0_4 (.cells none 2 (CW 256 (AD.int .u8) p0.t_.BV ++ [Ai p0.t_.An, AF rp0_4_2 p0.t_.BT.length, AF rp0_4_3 p0.t_.A9.length])), .AL rp0_4_2 21 (AL (eI .i32) p0.t_.BT), .AL rp0_4_3 4 (AL eB p0.t_.A9), .AL rp0_5 5 (AL eY p0.Dc), .obj bp0_6 (.map 2 (BZ (fun k : List UInt8 => .str k) (fun v : Int => .int .i32 v) p0.CH)), .AL rp0_7 9 (AL eS p0.B2), .AL (some h.size) 5 (AL eY x16)] F := A.CY (n := 9) A1
  refine BD 2 [] 82 hr H fun fr t H => ?_
  refine AP 1 [(6, .str x15)] H fun fr H => AY ?_
  obtain rfl := Ag hm
  refine ⟨.inl rfl, .str x15, rH H, ?_⟩
  replace A := A.d8
  exact ⟨rfl, A⟩
 exact hF.elim
def GV (p0 : List AQ) (p1 : EJ) (p2 : Int) (x1 : Bf) (x2 : List UInt8) (x15 : Int) (s : (List Int) × (List Bool) × (List ((List UInt8) × Int)) × (List (List UInt8)) × Int) : Option (((List Int) × (List Bool) × (List ((List UInt8) × Int)) × (List (List UInt8)) × Int) ⊕ (((List Int) × (List Bool) × (List ((List UInt8) × Int)) × (List (List UInt8))) ⊕ ((List Int) × (List Bool) × (List ((List UInt8) × Int)) × (List (List UInt8)) × Int))) :=
 match s with
 | (x25, x26, x27, x28, x29) => Af (decide (x29 < (x2.length : Int))) ((GP x2 x29).bind fun x39 => (GP x28 x15).bind fun x40 => (Di (⟨p0, p1, p2, (⟨x1.BV, x1.An, x25, x26⟩ : Bf), x2, x27, x28⟩ : B7) x40 (x39.toNat : Int)).bind fun x41 => (Cn (⟨p0, p1, p2, (⟨x1.BV, x1.An, x25, x26⟩ : Bf), x2, x27, x28⟩ : B7) x41).bind fun (x42, x43, x44, x45, x46) => Af (!x43) (some (.inr (.inr (x25, x44, x45, x46, (7 : Int))))) (Fh (Np 4 (x25.length + ([x42] : List Int).length)) <| some (.inl ((x25 ++ ([x42] : List Int)), x44, x45, x46, IntKind.i64.wrap (x29 + 1))))) (some (.inr (.inl (x25, x26, x27, x28))))
def GW (p0 : List AQ) (p1 : EJ) (p2 : Int) (x1 : Bf) (x2 : List UInt8) (s : (List Int) × (List Bool) × (List ((List UInt8) × Int)) × (List (List UInt8)) × Int) : Option (((List Int) × (List Bool) × (List ((List UInt8) × Int)) × (List (List UInt8)) × Int) ⊕ (((List Int) × (List Bool) × (List ((List UInt8) × Int)) × (List (List UInt8))) ⊕ ((List Int) × (List Bool) × (List ((List UInt8) × Int)) × (List (List UInt8)) × Int))) :=
 match s with
 | (x11, x12, x13, x14, x15) => Af (decide (x15 < (x14.length : Int))) ((loop (GV p0 p1 p2 x1 x2 x15) (x11, x12, x13, x14, (0 : Int))).bind fun o2 => (match o2 with | .inl (x30, x31, x32, x33) => some (.inl (x30, x31, x32, x33, IntKind.i64.wrap (x15 + 1))) | .inr (x34, x35, x36, x37, x38) => some (.inr (.inr (x34, x35, x36, x37, x38))))) (some (.inr (.inl (x11, x12, x13, x14))))
def Fx (p0 : List AQ) (p1 : EJ) (p2 : Int) : Option ((Option Bf) × Int) :=
 Af ((decide (p2 < 1)) || (decide (p2 > 4096))) (some (none, (6 : Int))) (Af (decide ((p0.length : Int) > 1024)) (some (none, (8 : Int))) ((Ds (⟨p0, p1, p2, (⟨J6, (0 : Int), ([] : List Int), ([] : List Bool)⟩ : Bf), ([] : List UInt8), ([] : List ((List UInt8) × Int)), ([] : List (List UInt8))⟩ : B7)).bind fun (x1, x2) => Fh (X6 1 (IntKind.i64.wrap ((CE .i64 (p0.length : Int) (3 : Int)) + 1))) <| (GP (List.replicate (IntKind.i64.wrap ((CE .i64 (p0.length : Int) (3 : Int)) + 1)).toNat (0 : UInt8)) (0 : Int)).bind fun x3 => (Cm (⟨p0, p1, p2, (⟨x1.BV, x1.An, ([] : List Int), ([] : List Bool)⟩ : Bf), x2, ([] : List ((List UInt8) × Int)), ([] : List (List UInt8))⟩ : B7) ((List.replicate (IntKind.i64.wrap ((CE .i64 (p0.length : Int) (3 : Int)) + 1)).toNat (0 : UInt8)).set (0 : Int).toNat (1 : UInt8))).bind fun (x4, x5) => (Cn (⟨p0, p1, p2, (⟨x1.BV, x1.An, ([] : List Int), ([] : List Bool)⟩ : Bf), x2, ([] : List ((List UInt8) × Int)), ([] : List (List UInt8))⟩ : B7) x4).bind fun (x6, x7, x8, x9, x10) => (loop (GW p0 p1 p2 x1 x2) (([] : List Int), x8, x9, x10, (0 : Int))).bind fun o1 => (match o1 with | .inl (x16, x17, x18, x19) => some (some (⟨x1.BV, x1.An, x16, x17⟩ : Bf), (0 : Int)) | .inr (x20, x21, x22, x23, x24) => some (none, x24))))
theorem KQ {p0 p1 p2 rp0 o0 q1} (hm : Fx p0 p1 p2 = some (o0, q1)) (A : HH g h [.AL rp0 264 (AL AN p0)] F) (hc : BH (cfg.still 130) av = [AF rp0 p0.length, .agg [.bool p1.Fold, .bool p1.A0], Ai p2] := by kernel_rfl) : ∃ v h', BN cfg g h 130 av v h' ∧ ((∃ (q0 : Bf), o0 = some q0 ∧ v = .tuple [.BC (CW 256 (AD.int .u8) q0.BV ++ [Ai q0.An, vs (eI .i32) q0.BT, vs eB q0.A9]), Ai q1] ∧ HH g h' [.AL rp0 264 (AL AN p0)] F) ∨ (o0 = none ∧ v = .tuple [.ptr none, Ai q1] ∧ HH g h' [.AL rp0 264 (AL AN p0)] F)) := by
 refine Yf 104 [.tmp 6, .tmp 7] hc ?_
 clear hc
 unfold Fx at hm
 refine bg 104 [(0, AF rp0 p0.length), (1, .agg [.bool p1.Fold, .bool p1.A0]), (2, Ai p2)] fun fr H => ?_
 refine AH 3 ?_
 obtain ⟨h1, e1, A⟩ := A.pu (.cells none 2 [.bool p1.Fold, .bool p1.A0])
 refine A7 4 (.ptr (some (h.size, 0))) e1 H fun fr t H => ?_
 refine AP 2 [] H fun fr H => AV (Aa (id := 0) (by kernel_rfl) ?_)
 refine AH 7 (AG 3 [(18, .bool (decide (p2 < 1)))] H fun fr H => Aq 3 (fun fr' h' => h1 = h' ∧ Has fr' 104 [(0, AF rp0 p0.length), (2, Ai p2), (4, .ptr (some (h.size, 0))), (21, .bool ((decide (p2 < 1)) || (decide (p2 > 4096))))]) ?_ ?_)
 ·cases hb : (decide (p2 < 1) : Bool) with
  | true =>
   replace H := H.kn 18 hb
   exact AG 3 [(21, .bool true)] H fun fr H => Ap H hb
  | false =>
   replace H := H.kn 18 hb
   exact AG 3 [(21, .bool (decide (p2 > 4096)))] H fun fr H => Ap H hb
 intro t fr h' hK
 obtain ⟨e, H⟩ := hK
 subst e
 refine AP 1 [(15, .bool ((decide (p2 < 1)) || (decide (p2 > 4096))))] H fun fr H => Ak 15 H hm (fun hb hm H => ?_) fun hb hm H => ?_
 ·refine AH 2 (AP 2 [(6, .ptr none), (7, Ai 6)] H fun fr H => AY ?_)
  obtain ⟨rfl, rfl⟩ := C9 hm
  refine ⟨.inl rfl, .tuple [.ptr none, Ai 6], rH H, ?_⟩
  replace A := A.k1 1
  refine ⟨.tuple [.ptr none, Ai 6], h1, by first | rfl | (simp only [PG, PZ, Po, PW, Pd, PI, PE, PK, PJ, PV, Pa, Pj, PM, HL, HK, G2, HB, HF, HM, G3, Option.map_some] <;> rfl), ?_⟩
  exact .inr ⟨rfl, rfl, A⟩
 refine AH 4 (AP 4 [(22, .bool (decide ((p0.length : Int) > 1024)))] H fun fr H => Ak 22 H hm (fun hb hm H => ?_) fun hb hm H => ?_)
 ·refine AH 2 (AP 2 [(6, .ptr none), (7, Ai 8)] H fun fr H => AY ?_)
  obtain ⟨rfl, rfl⟩ := C9 hm
  refine ⟨.inl rfl, .tuple [.ptr none, Ai 8], rH H, ?_⟩
  replace A := A.k1 1
  refine ⟨.tuple [.ptr none, Ai 8], h1, by first | rfl | (simp only [PG, PZ, Po, PW, Pd, PI, PE, PK, PJ, PV, Pa, Pj, PM, HL, HK, G2, HB, HF, HM, G3, Option.map_some] <;> rfl), ?_⟩
  exact .inr ⟨rfl, rfl, A⟩
 refine Cc 9 id (Ax 1 [(26, AF rp0 p0.length)] 27 _ _ H (fun fr => .of (B5 (by kernel_rfl) (A.GQ 0 rfl (o := 0) (n := 2) ⟨Nat.le_of_ble_eq_true rfl, rfl⟩))) fun fr t H => ?_)
 obtain ⟨h2, e2, A⟩ := A.pu (.cells none 2 (CW 256 (AD.int .u8) J6 ++ [Ai 0, .slice none 0, .slice none 0]))
 refine JI 2 [(28, Ai p2)] 30 (.ptr (some (h1.size, 0))) e2 H fun fr t H => ?_
 obtain ⟨h3, e3⟩ : ∃ x, x = h2.push (.map 2 []) := ⟨_, rfl⟩
 replace A : HH g h3 [.obj h2.size (.map 2 (BZ (fun k : List UInt8 => .str k) (fun v : Int => .int .i32 v) ([] : List ((List UInt8) × Int)))), .obj h1.size (.cells none 2 (CW 256 (AD.int .u8) J6 ++ [Ai 0, .slice none 0, .slice none 0])), .obj h.size (.cells none 2 [.bool p1.Fold, .bool p1.A0]), _] F := (A.push _).to e3
 refine A7 31 (.map (some h2.size)) e3 H fun fr t H => ?_
 obtain ⟨h4, e4, A⟩ := A.pu (.cells none 2 [AF rp0 p0.length, .bool p1.Fold, .bool p1.A0, Ai p2, .ptr (some (h1.size, 0)), .slice none 0, .map (some h2.size), .slice none 0])
 refine JI 1 [] 33 (.ptr (some (h3.size, 0))) e4 H fun fr t H => ?_
 refine Bn 1 [(8, .ptr (some (h3.size, 0)))] 2 H fun fr H => ?_
 replace A : HH g h4 [.AL none 21 (AL (eI .i32) ([] : List Int)), .obj h3.size (.cells none 2 [AF rp0 p0.length, .bool p1.Fold, .bool p1.A0, Ai p2, .ptr (some (h1.size, 0)), .slice none 0, .map (some h2.size), .slice none 0]), _, .obj h1.size (.cells none 2 (CW 256 (AD.int .u8) J6 ++ [Ai 0, AF none (([] : List Int).length), .slice none 0])), _, _] F := A.I5 21
 replace A : HH g h4 [.AL none 4 (AL eB ([] : List Bool)), _, _, _, .obj h1.size (.cells none 2 (CW 256 (AD.int .u8) J6 ++ [Ai 0, AF none (([] : List Int).length), AF none (([] : List Bool).length)])), _, _] F := A.I5 4
 replace A : HH g h4 [.AL none 5 (AL eY ([] : List UInt8)), _, _, .obj h3.size (.cells none 2 [_, _, _, _, _, AF none (([] : List UInt8).length), _, _]), _, _, _, _] F := A.I5 5
 replace A : HH g h4 [.AL none 9 (AL eS ([] : List (List UInt8))), _, _, _, .obj h3.size (.cells none 2 [_, _, _, _, _, _, _, AF none (([] : List (List UInt8)).length)]), _, _, _, _] F := A.I5 9
 replace A := A.k9 4 8 6 3 2 1 5 0 7
 obtain ⟨⟨x1, x2⟩, hx, hm⟩ := bind_some hm
 obtain ⟨v1, h5, hr, r1, rfl, A1⟩ := Hd (av := [.ptr (some (h3.size, 0))]) hx (A.cut 8)
 replace A : HH g h5 [.obj h3.size (.cells none 2 [_, _, _, _, _, AF r1 x2.length, _, _]), .AL rp0 264 (AL AN p0), .obj h1.size (.cells none 2 (CW 256 (AD.int .u8) x1.BV ++ [Ai x1.An, AF none (([] : List Int).length), AF none (([] : List Bool).length)])), .AL none 21 (AL (eI .i32) ([] : List Int)), .AL none 4 (AL eB ([] : List Bool)), .AL r1 5 (AL eY x2), .obj h2.size (.map 2 (BZ (fun k : List UInt8 => .str k) (fun v : Int => .int .i32 v) ([] : List ((List UInt8) × Int)))), .AL none 9 (AL eS ([] : List (List UInt8))), _] F := A.CY (n := 8) A1
 refine Q7 1 [] hr H fun fr t H => ?_
 refine Cb 6 id ?_
 obtain ⟨hb, hm⟩ := BQ hm
 obtain ⟨h6, e5, A⟩ := A.pL 5 (AL eY (List.replicate (IntKind.i64.wrap ((CE .i64 (p0.length : Int) (3 : Int)) + 1)).toNat (0 : UInt8)))
 refine Ax 4 [] 40 (AF (some h5.size) (List.replicate (IntKind.i64.wrap ((CE .i64 (p0.length : Int) (3 : Int)) + 1)).toNat (0 : UInt8)).length) h6 H (fun fr => .of (VJ (e := eY) HQ (x := (0 : UInt8)) (by kernel_rfl) hb (congrArg some e5.symm))) fun fr t H => ?_
 refine Bn 1 [(9, AF (some h5.size) ((List.replicate (IntKind.i64.wrap ((CE .i64 (p0.length : Int) (3 : Int)) + 1)).toNat (0 : UInt8)).length))] 3 H fun fr H => ?_
 obtain ⟨x3, hx, hm⟩ := bind_some hm
 obtain ⟨i1, er1, _, hx, hq1⟩ := HH.Ll HQ (by decide) A 0 (xs := (List.replicate (IntKind.i64.wrap ((CE .i64 (p0.length : Int) (3 : Int)) + 1)).toNat (0 : UInt8))) rfl hx
 refine Ax 1 [] 42 (.ptr (some (i1, (0 : Int).toNat * 1))) h6 H (fun fr => .of (D7 (s := DP (some h5.size) ((List.replicate (IntKind.i64.wrap ((CE .i64 (p0.length : Int) (3 : Int)) + 1)).toNat (0 : UInt8)).length)) (by kernel_rfl) hx)) fun fr t H => ?_
 obtain ⟨h7, hx, A1⟩ := HH.XG HQ A 0 rfl er1 hq1 (y := (1 : UInt8)) (o := 0) (new := [Ab 1]) rfl rfl (Nat.le_of_ble_eq_true rfl)
 have hl1 : ((List.replicate (IntKind.i64.wrap ((CE .i64 (p0.length : Int) (3 : Int)) + 1)).toNat (0 : UInt8)).set (0 : Int).toNat (1 : UInt8)).length = (List.replicate (IntKind.i64.wrap ((CE .i64 (p0.length : Int) (3 : Int)) + 1)).toNat (0 : UInt8)).length := List.length_set
 have el : AF (some h5.size) (List.replicate (IntKind.i64.wrap ((CE .i64 (p0.length : Int) (3 : Int)) + 1)).toNat (0 : UInt8)).length = AF (some h5.size) ((List.replicate (IntKind.i64.wrap ((CE .i64 (p0.length : Int) (3 : Int)) + 1)).toNat (0 : UInt8)).set (0 : Int).toNat (1 : UInt8)).length := congrArg _ List.length_set.symm
 try rw [el] at H
 try rw [el] at A1
 replace A : HH g h7 [.AL (some h5.size) 5 (AL eY ((List.replicate (IntKind.i64.wrap ((CE .i64 (p0.length : Int) (3 : Int)) + 1)).toNat (0 : UInt8)).set (0 : Int).toNat (1 : UInt8))), _, _, _, _, _, _, _, _, _] F := A1
 refine Ep hx H fun fr t H => ?_
 refine Cb 5 id ?_
 replace A : HH g h7 [_, _, _, _, _, _, _, _, _, _] F := (((((((((A.front 0 rfl).front 8 rfl).front 8 rfl).front 8 rfl).front 8 rfl).front 8 rfl).front 8 rfl).front 8 rfl).front 8 rfl)
 obtain ⟨⟨x4, x5⟩, hx, hm⟩ := bind_some hm
 obtain ⟨v1, h8, hr, hl2, rfl, A1⟩ := FC (av := [.ptr (some (h3.size, 0)), AF (some h5.size) (((List.replicate (IntKind.i64.wrap ((CE .i64 (p0.length : Int) (3 : Int)) + 1)).toNat (0 : UInt8)).set (0 : Int).toNat (1 : UInt8)).length)]) hx (A.cut 9)
 have hl3 : x5.length = (List.replicate (IntKind.i64.wrap ((CE .i64 (p0.length : Int) (3 : Int)) + 1)).toNat (0 : UInt8)).length := hl2.trans hl1
 have el : AF (some h5.size) ((List.replicate (IntKind.i64.wrap ((CE .i64 (p0.length : Int) (3 : Int)) + 1)).toNat (0 : UInt8)).set (0 : Int).toNat (1 : UInt8)).length = AF (some h5.size) x5.length := congrArg _ hl2.symm
 try rw [el] at H
 try rw [el] at hr
 try rw [el] at A1
 replace A : HH g h8 [.obj h3.size (.cells none 2 [_, _, _, _, _, _, _, _]), .AL rp0 264 (AL AN p0), .obj h1.size (.cells none 2 (CW 256 (AD.int .u8) x1.BV ++ [Ai x1.An, AF none (([] : List Int).length), AF none (([] : List Bool).length)])), .AL none 21 (AL (eI .i32) ([] : List Int)), .AL none 4 (AL eB ([] : List Bool)), .AL r1 5 (AL eY x2), .obj h2.size (.map 2 (BZ (fun k : List UInt8 => .str k) (fun v : Int => .int .i32 v) ([] : List ((List UInt8) × Int)))), .AL none 9 (AL eS ([] : List (List UInt8))), .AL (some h5.size) 5 (AL eY x5), _] F := A.CY (n := 9) A1
 refine BD 3 [(43, .ptr (some (h3.size, 0)))] 46 hr H fun fr t H => ?_
 obtain ⟨⟨x6, x7, x8, x9, x10⟩, hx, hm⟩ := bind_some hm
 obtain ⟨v1, h9, hr, r2, r3, rfl, A1⟩ := FE (av := [.ptr (some (h3.size, 0)), .str x4]) hx (A.cut 8)
 replace A : HH g h9 [.obj h3.size (.cells none 2 [_, _, _, _, _, _, _, AF r3 x10.length]), .AL rp0 264 (AL AN p0), .obj h1.size (.cells none 2 (CW 256 (AD.int .u8) x1.BV ++ [Ai x1.An, AF none (([] : List Int).length), AF r2 x8.length])), .AL none 21 (AL (eI .i32) ([] : List Int)), .AL r2 4 (AL eB x8), .AL r1 5 (AL eY x2), .obj h2.size (.map 2 (BZ (fun k : List UInt8 => .str k) (fun v : Int => .int .i32 v) x9)), .AL r3 9 (AL eS x10), _, _] F := A.CY (n := 8) A1
 refine Ut hr H fun fr t H => ?_
 refine BF id (AV (AH 1 (AP 1 [(10, Ai 0)] H fun fr H => Aa (id := 1) (by kernel_rfl) ?_)))
 replace A := A.k9 0 1 2 3 4 5 6 7 9
 obtain ⟨o1, ho, hm⟩ := bind_some hm
 refine BG (Q' := fun e fr' h' => (∃ x16 x17 x18 x19, e = .exit 1 ∧ .inl (x16, x17, x18, x19) = o1 ∧ ∃ r7 r8 r9, Has fr' 104 [(8, .ptr (some (h3.size, 0)))] ∧ HH g h' [.obj h3.size (.cells none 2 [AF rp0 p0.length, .bool p1.Fold, .bool p1.A0, Ai p2, .ptr (some (h1.size, 0)), AF r1 x2.length, .map (some h2.size), AF r9 x19.length]), .AL rp0 264 (AL AN p0), .obj h1.size (.cells none 2 (CW 256 (AD.int .u8) x1.BV ++ [Ai x1.An, AF r7 x16.length, AF r8 x17.length])), .AL r7 21 (AL (eI .i32) x16), .AL r8 4 (AL eB x17), .AL r1 5 (AL eY x2), .obj h2.size (.map 2 (BZ (fun k : List UInt8 => .str k) (fun v : Int => .int .i32 v) x18)), .AL r9 9 (AL eS x19), .obj h.size (.cells none 2 [.bool p1.Fold, .bool p1.A0])] F) ∨ (∃ x20 x21 x22 x23 x24, e = .ret ∧ .inr (x20, x21, x22, x23, x24) = o1 ∧ ∃ r10 r11 r12, Has fr' 104 [(6, .ptr none), (7, Ai x24)] ∧ HH g h' [.obj h3.size (.cells none 2 [AF rp0 p0.length, .bool p1.Fold, .bool p1.A0, Ai p2, .ptr (some (h1.size, 0)), AF r1 x2.length, .map (some h2.size), AF r12 x23.length]), .AL rp0 264 (AL AN p0), .obj h1.size (.cells none 2 (CW 256 (AD.int .u8) x1.BV ++ [Ai x1.An, AF r10 x20.length, AF r11 x21.length])), .AL r10 21 (AL (eI .i32) x20), .AL r11 4 (AL eB x21), .AL r1 5 (AL eY x2), .obj h2.size (.map 2 (BZ (fun k : List UInt8 => .str k) (fun v : Int => .int .i32 v) x22)), .AL r12 9 (AL eS x23), .obj h.size (.cells none 2 [.bool p1.Fold, .bool p1.A0])] F) ∨ False) ?_ ?_
 ·refine Bv (by kernel_rfl) (fun (s : (List Int) × (List Bool) × (List ((List UInt8) × Int)) × (List (List UInt8)) × Int) fr' h' => ∃ x11 x12 x13 x14 x15, (x11, x12, x13, x14, x15) = s ∧ ∃ r4 r5 r6, Has fr' 104 [(8, .ptr (some (h3.size, 0))), (10, Ai x15)] ∧ HH g h' [.obj h3.size (.cells none 2 [AF rp0 p0.length, .bool p1.Fold, .bool p1.A0, Ai p2, .ptr (some (h1.size, 0)), AF r1 x2.length, .map (some h2.size), AF r6 x14.length]), .AL rp0 264 (AL AN p0), .obj h1.size (.cells none 2 (CW 256 (AD.int .u8) x1.BV ++ [Ai x1.An, AF r4 x11.length, AF r5 x12.length])), .AL r4 21 (AL (eI .i32) x11), .AL r5 4 (AL eB x12), .AL r1 5 (AL eY x2), .obj h2.size (.map 2 (BZ (fun k : List UInt8 => .str k) (fun v : Int => .int .i32 v) x13)), .AL r6 9 (AL eS x14), .obj h.size (.cells none 2 [.bool p1.Fold, .bool p1.A0])] F) ho ⟨_, _, _, _, _, rfl, none, _, _, H.ls, A⟩ ?_
  clear ho hm H A
  intro s q fr h10 hI hm
  obtain ⟨x11, x12, x13, x14, x15, rfl, r4, r5, r6, H, A⟩ := hI
  unfold GW at hm
  refine AV (AH 7 (AZ 4 [(48, Ai x15)] 52 0 7 A H fun fr t H => ?_))
  refine AP 2 [(54, .bool (decide (x15 < (x14.length : Int))))] H fun fr H => Ak 54 H hm (fun hb hm H => ?_) fun hb hm H => ?_
  ·refine Br id (AV (Aa (id := 2) (by kernel_rfl) ?_))
   refine AH 6 (AZ 3 [] 60 0 5 A H fun fr t H => ?_)
   refine AP 2 [(61, Ai (x2.length : Int)), (62, Ai 0)] H fun fr H => Aa (id := 3) (by kernel_rfl) ?_
   obtain ⟨o2, ho, hm⟩ := bind_some hm
   refine BG (Q' := fun e fr' h' => (∃ x30 x31 x32 x33, e = .exit 3 ∧ .inl (x30, x31, x32, x33) = o2 ∧ ∃ r16 r17 r18, Has fr' 104 [(8, .ptr (some (h3.size, 0))), (10, Ai x15)] ∧ HH g h' [.obj h3.size (.cells none 2 [AF rp0 p0.length, .bool p1.Fold, .bool p1.A0, Ai p2, .ptr (some (h1.size, 0)), AF r1 x2.length, .map (some h2.size), AF r18 x33.length]), .AL rp0 264 (AL AN p0), .obj h1.size (.cells none 2 (CW 256 (AD.int .u8) x1.BV ++ [Ai x1.An, AF r16 x30.length, AF r17 x31.length])), .AL r16 21 (AL (eI .i32) x30), .AL r17 4 (AL eB x31), .AL r1 5 (AL eY x2), .obj h2.size (.map 2 (BZ (fun k : List UInt8 => .str k) (fun v : Int => .int .i32 v) x32)), .AL r18 9 (AL eS x33), .obj h.size (.cells none 2 [.bool p1.Fold, .bool p1.A0])] F) ∨ (∃ x34 x35 x36 x37 x38, e = .ret ∧ .inr (x34, x35, x36, x37, x38) = o2 ∧ ∃ r19 r20 r21, Has fr' 104 [(6, .ptr none), (7, Ai x38)] ∧ HH g h' [.obj h3.size (.cells none 2 [AF rp0 p0.length, .bool p1.Fold, .bool p1.A0, Ai p2, .ptr (some (h1.size, 0)), AF r1 x2.length, .map (some h2.size), AF r21 x37.length]), .AL rp0 264 (AL AN p0), .obj h1.size (.cells none 2 (CW 256 (AD.int .u8) x1.BV ++ [Ai x1.An, AF r19 x34.length, AF r20 x35.length])), .AL r19 21 (AL (eI .i32) x34), .AL r20 4 (AL eB x35), .AL r1 5 (AL eY x2), .obj h2.size (.map 2 (BZ (fun k : List UInt8 => .str k) (fun v : Int => .int .i32 v) x36)), .AL r21 9 (AL eS x37), .obj h.size (.cells none 2 [.bool p1.Fold, .bool p1.A0])] F) ∨ False) ?_ ?_
   ·refine Bv (by kernel_rfl) (fun (s : (List Int) × (List Bool) × (List ((List UInt8) × Int)) × (List (List UInt8)) × Int) fr' h' => ∃ x25 x26 x27 x28 x29, (x25, x26, x27, x28, x29) = s ∧ ∃ r13 r14 r15, Has fr' 104 [(8, .ptr (some (h3.size, 0))), (10, Ai x15), (60, AF r1 x2.length), (61, Ai (x2.length : Int)), (62, Ai x29)] ∧ HH g h' [.obj h3.size (.cells none 2 [AF rp0 p0.length, .bool p1.Fold, .bool p1.A0, Ai p2, .ptr (some (h1.size, 0)), AF r1 x2.length, .map (some h2.size), AF r15 x28.length]), .AL rp0 264 (AL AN p0), .obj h1.size (.cells none 2 (CW 256 (AD.int .u8) x1.BV ++ [Ai x1.An, AF r13 x25.length, AF r14 x26.length])), .AL r13 21 (AL (eI .i32) x25), .AL r14 4 (AL eB x26), .AL r1 5 (AL eY x2), .obj h2.size (.map 2 (BZ (fun k : List UInt8 => .str k) (fun v : Int => .int .i32 v) x27)), .AL r15 9 (AL eS x28), .obj h.size (.cells none 2 [.bool p1.Fold, .bool p1.A0])] F) ho ⟨_, _, _, _, _, rfl, _, _, _, H.ls, A⟩ ?_
    clear ho hm H A
    intro s q fr h11 hI hm
    obtain ⟨x25, x26, x27, x28, x29, rfl, r13, r14, r15, H, A⟩ := hI
    unfold GV at hm
    refine AH 1 (AP 1 [(63, .bool (decide (x29 < (x2.length : Int))))] H fun fr H => AV (Ak 63 H hm (fun hb hm H => ?_) fun hb hm H => ?_))
    ·refine Br id (AV (Aa (id := 4) (by kernel_rfl) ?_))
     refine AH 3 ?_
     obtain ⟨x39, hx, hm⟩ := bind_some hm
     obtain ⟨i2, er2, _, hx, hq2⟩ := HH.Ll HQ (by decide) A 5 (xs := x2) rfl hx
     refine As 64 (.ptr (some (i2, x29.toNat * 1))) h11 H (fun fr => .of (D7 (s := DP r1 x2.length) (by kernel_rfl) hx)) fun fr t H => ?_
     refine As 65 _ _ H (fun fr => .of (DU (by kernel_rfl) (EP HQ (HH.row A 5 rfl er2) hq2 (o := 0) rfl))) fun fr t H => ?_
     refine Bn 1 [(12, Ab (x39.toNat : Int))] 17 H fun fr H => AZ 5 [(67, .ptr (some (h3.size, 0))), (68, .ptr (some (h3.size, 0)))] 72 0 7 A H fun fr t H => ?_
     obtain ⟨x40, hx, hm⟩ := bind_some hm
     obtain ⟨i3, er3, _, hx, hq3⟩ := HH.Ll encS (by decide) A 7 (xs := x28) rfl hx
     refine Ax 1 [] 74 (.ptr (some (i3, x15.toNat * 1))) h11 H (fun fr => .of (D7 (s := DP r15 x28.length) (by kernel_rfl) hx)) fun fr t H => ?_
     refine As 75 _ _ H (fun fr => .of (DU (by kernel_rfl) (EP encS (HH.row A 7 rfl er3) hq3 (o := 0) rfl))) fun fr t H => ?_
     obtain ⟨x41, hx, hm⟩ := bind_some hm
     obtain ⟨v1, h12, hr, rfl, A1⟩ := HS (av := [.ptr (some (h3.size, 0)), .str x40, Ab (x39.toNat : Int)]) hx (A.cut 8)
     replace A : HH g h12 [.obj h3.size (.cells none 2 [_, _, _, _, _, _, _, _]), .AL rp0 264 (AL AN p0), .obj h1.size (.cells none 2 (CW 256 (AD.int .u8) x1.BV ++ [Ai x1.An, AF r13 x25.length, AF r14 x26.length])), .AL r13 21 (AL (eI .i32) x25), .AL r14 4 (AL eB x26), .AL r1 5 (AL eY x2), .obj h2.size (.map 2 (BZ (fun k : List UInt8 => .str k) (fun v : Int => .int .i32 v) x27)), .AL r15 9 (AL eS x28), _] F := A.CY (n := 8) A1
     refine BD 1 [] 77 hr H fun fr t H => ?_
     obtain ⟨⟨x42, x43, x44, x45, x46⟩, hx, hm⟩ := bind_some hm
     obtain ⟨v1, h13, hr, r22, r23, rfl, A1⟩ := FE (av := [.ptr (some (h3.size, 0)), .str x41]) hx (A.cut 8)
     replace A : HH g h13 [.obj h3.size (.cells none 2 [_, _, _, _, _, _, _, AF r23 x46.length]), .AL rp0 264 (AL AN p0), .obj h1.size (.cells none 2 (CW 256 (AD.int .u8) x1.BV ++ [Ai x1.An, AF r13 x25.length, AF r22 x44.length])), .AL r13 21 (AL (eI .i32) x25), .AL r22 4 (AL eB x44), .AL r1 5 (AL eY x2), .obj h2.size (.map 2 (BZ (fun k : List UInt8 => .str k) (fun v : Int => .int .i32 v) x45)), .AL r23 9 (AL eS x46), _] F := A.CY (n := 8) A1
     refine A8 78 hr H fun fr t H => ?_
     refine AP 5 [(13, .int .i32 x42), (14, .bool x43)] H fun fr H => AV (AH 2 (AP 2 [(82, .bool (!x43))] H fun fr H => Ak 82 H hm (fun hb hm H => ?_) fun hb hm H => ?_))
     ·refine AH 2 (AP 2 [(6, .ptr none), (7, Ai 7)] H fun fr H => AY ?_)
      exact nr hm fun e => Or.inr (.inl ⟨_, _, _, _, _, rfl, e, _, _, _, H.ls, A⟩)
     refine Br id (Kg 19 17 [(0, []), (1, []), (2, []), (3, []), (4, []), (5, []), (6, []), (7, []), (8, []), (9, []), (10, []), (11, []), (12, []), (13, [3]), (14, []), (15, []), (16, [])] ?_)
     refine AG 3 [(85, .ptr (some (h3.size, 4)))] H fun fr H => CO 86 (.ptr (some (h1.size, 0))) h13 [(3, h3.size)] (g.Bm) H (fun fr => .of (DU (by kernel_rfl) (A.l1 0 4))) (fun fr H => ?_)
     refine AG 3 [(89, .ptr (some (h3.size, 4)))] H fun fr H => CO 90 (.ptr (some (h1.size, 0))) h13 [(7, h3.size), (3, h3.size)] (g.Bm) H (fun fr => .of (DU (by kernel_rfl) (A.l1 0 4))) (fun fr H => ?_)
     refine AG 2 [(92, .ptr (some (h1.size, 257)))] H fun fr H => CO 93 (AF r13 x25.length) h13 [(10, h1.size), (7, h3.size), (3, h3.size)] (g.Bm) H (fun fr => .of (DU (by kernel_rfl) (A.N6 2 rfl (o := 257) (by kernel_rfl)))) (fun fr H => ?_)
     refine AG 1 [(94, .int .i32 x42)] H fun fr H => ?_
     obtain ⟨h14, e6, A⟩ := A.pL 21 [.int .i32 x42]
     refine CO 95 (AF (some h13.size) (([x42] : List Int).length)) h14 [(12, h13.size), (10, h1.size), (7, h3.size), (3, h3.size)] (g.Bm) H (fun fr => .of (VS (by kernel_rfl) (congrArg some e6.symm))) (fun fr H => ?_)
     replace A : HH g h14 [_, .AL (some h13.size) 21 ([.int .i32 x42]), _, _, _, _, _, _, _, _] F := (A.front 4 rfl)
     have A1 := A.G4 1 (pr := [h3.size]) (.cons 1 rfl (by simp [Ck.ids]) .nil)
     obtain ⟨hb, hm⟩ := BQ hm
     obtain ⟨r24, h15, hx, A1⟩ := HH.Lo (encI .i32) (by decide) A1 0 (xs := x25) (ys := ([x42] : List Int)) rfl (DM A 1 rfl (n := ([x42] : List Int).length) (z := 1) rfl (by decide)) rfl rfl hb
     replace A := A.Wm A1
     replace A := A.k9 0 2 3 4 5 6 7 8 9
     refine CO 96 (AF r24 ((x25 ++ ([x42] : List Int)).length)) h15 [(12, h13.size), (10, h1.size), (7, h3.size), (3, h3.size)] (h3.size :: g.Bm) H (fun fr => .of (IE (s := DP r13 x25.length) (by kernel_rfl) hx)) (fun fr H => ?_)
     refine AG 2 [(98, .ptr (some (h1.size, 257)))] H fun fr H => ?_
     obtain ⟨h16, hx, A1⟩ := A.st 3 rfl (o := 257) (new := [AF r24 ((x25 ++ ([x42] : List Int)).length)]) (ds := (CW 256 (AD.int .u8) x1.BV ++ ([Ai x1.An, AF r24 ((x25 ++ ([x42] : List Int)).length), AF r22 x44.length]))) (Nat.le_of_ble_eq_true (by kernel_rfl)) rfl (by kernel_rfl)
     replace A : HH g h16 [_, _, _, .obj h1.size (.cells none 2 (CW 256 (AD.int .u8) x1.BV ++ ([Ai x1.An, AF r24 ((x25 ++ ([x42] : List Int)).length), AF r22 x44.length]))), _, _, _, _, _] F := A1
     refine I7 (.tuple []) h16 [(12, h13.size), (10, h1.size), (7, h3.size), (3, h3.size)] (g.Bm) H (fun fr => .of (MT (by kernel_rfl) rfl hx)) (fun fr H => ?_)
     refine Ij 2 id (Bk 2 [(8, .ptr (some (h3.size, 0))), (10, Ai x15), (60, AF r1 x2.length), (61, Ai (x2.length : Int)), (62, Ai (IntKind.i64.wrap (x29 + 1)))] H fun fr H => at_nil ?_)
     replace A := A.k9 1 2 3 0 4 5 6 7 8
     exact nx hm ⟨_, _, _, _, _, rfl, _, _, _, H.ls, A⟩
    refine Bh (i := 3) (by kernel_rfl) ?_
    exact nr hm fun e => .inl ⟨_, _, _, _, rfl, e, _, _, _, H.ls, A⟩
   clear ho
   clear A
   intro e fr h17 hQ
   rcases hQ with ⟨x30, x31, x32, x33, rfl, rfl, r16, r17, r18, H, A⟩ | ⟨x34, x35, x36, x37, x38, rfl, rfl, r19, r20, r21, H, A⟩ | hF
   ·show AW _ _ _ _ _ _ _
    refine ED 3 (Bk 3 [(8, .ptr (some (h3.size, 0))), (10, Ai (IntKind.i64.wrap (x15 + 1)))] H fun fr H => at_nil ?_)
    exact nx hm ⟨_, _, _, _, _, rfl, _, _, _, H.ls, A⟩
   ·exact nr hm fun e => Or.inr (.inl ⟨_, _, _, _, _, rfl, e, _, _, _, H.ls, A⟩)
   exact hF.elim
  refine Bh (i := 1) (by kernel_rfl) ?_
  exact nr hm fun e => .inl ⟨_, _, _, _, rfl, e, _, _, _, H.ls, A⟩
 clear ho
 clear A
 intro e fr h18 hQ
 rcases hQ with ⟨x16, x17, x18, x19, rfl, rfl, r7, r8, r9, H, A⟩ | ⟨x20, x21, x22, x23, x24, rfl, rfl, r10, r11, r12, H, A⟩ | hF
 ·show AW _ _ _ _ _ _ _
  refine AH 6 (AZ 3 [] 103 0 4 A H fun fr t H => ?_)
  refine AP 2 [(6, .ptr (some (h1.size, 0))), (7, Ai 0)] H fun fr H => AY ?_
  obtain ⟨rfl, rfl⟩ := C9 hm
  refine ⟨.inl rfl, .tuple [.ptr (some (h1.size, 0)), Ai 0], rH H, ?_⟩
  replace A := A.k4 2 3 4 1
  obtain ⟨h19, A1, hy0⟩ := (A.front 0 rfl).Xw
  replace A : HH g h19 [_, _, _] F := A1
  obtain ⟨h20, hz1, A1⟩ := (A.front 0 rfl).XI (n := x16.length) (z := 1) ((encI .i32).KT _) (by decide)
  replace A : HH g h20 [_, _] F := A1
  obtain ⟨h21, hz2, A1⟩ := (A.front 0 rfl).XI (n := x17.length) (z := 1) (WZ.KT _) (by decide)
  replace A : HH g h21 [_] F := A1
  have hz0 := hy0 (CW 256 (AD.int .u8) x1.BV ++ [Ai x1.An, vs (eI .i32) x16, vs eB x17]) h21 (by simp only [PG, PZ, Po, PW, Pd, PI, PE, PK, PJ, PV, Pa, Pj, PM, HL, HK, G2, HB, HF, HM, G3, Option.map_some, SD, Rl, hz1, hz2] <;> rfl)
  refine ⟨.tuple [.BC (CW 256 (AD.int .u8) x1.BV ++ [Ai x1.An, vs (eI .i32) x16, vs eB x17]), Ai 0], h21, by first | rfl | (simp only [PG, PZ, Po, PW, Pd, PI, PE, PK, PJ, PV, Pa, Pj, PM, HL, HK, G2, HB, HF, HM, G3, Option.map_some, SD, Rl, hz0, hz1, hz2] <;> rfl), ?_⟩
  exact .inl ⟨(⟨x1.BV, x1.An, x16, x17⟩ : Bf), rfl, rfl, A⟩
 ·obtain ⟨rfl, rfl⟩ := C9 hm
  refine ⟨.inl rfl, .tuple [.ptr none, Ai x24], rH H, ?_⟩
  replace A := A.k1 1
  refine ⟨.tuple [.ptr none, Ai x24], h18, by first | rfl | (simp only [PG, PZ, Po, PW, Pd, PI, PE, PK, PJ, PV, Pa, Pj, PM, HL, HK, G2, HB, HF, HM, G3, Option.map_some] <;> rfl), ?_⟩
  exact .inr ⟨rfl, rfl, A⟩
 exact hF.elim
def JZ (p0 : AS) (p1 : Int) : Option ((Option Al) × Int × Int) :=
 (IY p0.Text).bind fun (x1, x2, x3) => Af (x3 != 0) (some (none, x2, x3)) ((Fx x1 (⟨p0.Fold, p0.A0⟩ : EJ) p1).bind fun (w5, x5) => (match w5 with | some x4 => Af (x5 != 0) (some (none, (0 : Int), x5)) (some (some (⟨p0, x4⟩ : Al), (0 : Int), (0 : Int))) | none => Af (x5 != 0) (some (none, (0 : Int), x5)) (none)))
theorem OR {p0 p1 o0 q1 q2} (hm : JZ p0 p1 = some (o0, q1, q2)) (A : HH g h [] F) (hc : BH (cfg.still 68) av = [.agg (AE p0), Ai p1] := by kernel_rfl) : ∃ v h', BN cfg g h 68 av v h' ∧ ((∃ (q0 : Al), o0 = some q0 ∧ v = .tuple [.BC (AB q0), Ai q1, Ai q2] ∧ HH g h' [] F) ∨ (o0 = none ∧ v = .tuple [.ptr none, Ai q1, Ai q2] ∧ HH g h' [] F)) := by
 refine Yf 40 [.tmp 4, .tmp 5, .tmp 6] hc ?_
 clear hc
 unfold JZ at hm
 refine bg 40 [(0, .agg (AE p0)), (1, Ai p1)] fun fr H => ?_
 refine AH 4 ?_
 obtain ⟨h1, e1, A⟩ := A.pu (.cells none 2 (AE p0))
 refine A7 2 (.ptr (some (h.size, 0))) e1 H fun fr t H => ?_
 refine Bn 3 [] 10 H fun fr H => AZ 1 [] 13 0 0 A H fun fr t H => ?_
 obtain ⟨⟨x1, x2, x3⟩, hx, hm⟩ := bind_some hm
 obtain ⟨v1, h2, hr, rqw1, rfl, A1⟩ := L1 (av := [.str p0.Text]) hx (A.cut 0)
 replace A : HH g h2 [.AL rqw1 264 (AL AN x1), .obj h.size (.cells none 2 (AE p0))] F := A.CY (n := 0) A1
 refine A8 14 hr H fun fr t H => ?_
 refine AP 7 [(7, AF rqw1 x1.length), (8, Ai x2), (9, Ai x3)] H fun fr H => AV (AH 2 (AP 2 [(19, .bool (x3 != 0))] H fun fr H => Ak 19 H hm (fun hb hm H => ?_) fun hb hm H => ?_))
 ·refine AH 5 (AP 5 [(4, .ptr none), (5, Ai x2), (6, Ai x3)] H fun fr H => AY ?_)
  obtain ⟨rfl, rfl, rfl⟩ := HY hm
  refine ⟨.inl rfl, .tuple [.ptr none, Ai x2, Ai x3], rH H, ?_⟩
  replace A := A.d0
  refine ⟨.tuple [.ptr none, Ai x2, Ai x3], h2, by first | rfl | (simp only [PG, PZ, Po, PW, Pd, PI, PE, PK, PJ, PV, Pa, Pj, PM, HL, HK, G2, HB, HF, HM, G3, Option.map_some] <;> rfl), ?_⟩
  exact .inr ⟨rfl, rfl, A⟩
 refine Cc 13 id (AZ 2 [(23, AF rqw1 x1.length)] 25 1 2 A H fun fr t H => ?_)
 refine AZ 1 [] 27 1 3 A H fun fr t H => ?_
 obtain ⟨⟨w5, x5⟩, hx, hm⟩ := bind_some hm
 obtain ⟨v1, h3, hr, hc⟩ := KQ (av := [AF rqw1 x1.length, .agg [.bool p0.Fold, .bool p0.A0], Ai p1]) hx (A.cut 1)
 rcases hc with ⟨x4, rfl, rfl, A1⟩ | ⟨rfl, rfl, A1⟩
 ·replace A := A.g11 A1
  refine BD 2 [] 30 hr H fun fr t H => ?_
  refine Bk 5 [(2, .ptr (some (h.size, 0))), (9, Ai x5), (10, .BC (CW 256 (AD.int .u8) x4.BV ++ [Ai x4.An, vs (eI .i32) x4.BT, vs eB x4.A9]))] H fun fr H => BF id (AV (AH 2 (AP 2 [(34, .bool (x5 != 0))] H fun fr H => Ak 34 H hm (fun hb hm H => ?_) fun hb hm H => ?_)))
  ·refine AH 4 (AP 4 [(4, .ptr none), (5, Ai 0), (6, Ai x5)] H fun fr H => AY ?_)
   obtain ⟨rfl, rfl, rfl⟩ := HY hm
   refine ⟨.inl rfl, .tuple [.ptr none, Ai 0, Ai x5], rH H, ?_⟩
   replace A := A.d0
   refine ⟨.tuple [.ptr none, Ai 0, Ai x5], h3, by first | rfl | (simp only [PG, PZ, Po, PW, Pd, PI, PE, PK, PJ, PV, Pa, Pj, PM, HL, HK, G2, HB, HF, HM, G3, Option.map_some] <;> rfl), ?_⟩
   exact .inr ⟨rfl, rfl, A⟩
  refine Cc 7 id (As 36 _ _ H (fun fr => .of (B5 (by kernel_rfl) (A.GQ 1 rfl (o := 0) (n := 4) ⟨Nat.le_of_ble_eq_true rfl, rfl⟩))) fun fr t H => ?_)
  obtain ⟨h4, e2, A⟩ := A.pu (.cells none 2 [.str p0.Text, .bool p0.CD, .bool p0.Fold, .bool p0.A0, .BC (CW 256 (AD.int .u8) x4.BV ++ [Ai x4.An, vs (eI .i32) x4.BT, vs eB x4.A9])])
  refine JI 2 [] 39 (.ptr (some (h3.size, 0))) e2 H fun fr t H => ?_
  refine AP 3 [(4, .ptr (some (h3.size, 0))), (5, Ai 0), (6, Ai 0)] H fun fr H => AY ?_
  obtain ⟨rfl, rfl, rfl⟩ := HY hm
  refine ⟨.inl rfl, .tuple [.ptr (some (h3.size, 0)), Ai 0, Ai 0], rH H, ?_⟩
  replace A : HH g h4 [.obj h3.size (.cells none 2 [.str p0.Text, .bool p0.CD, .bool p0.Fold, .bool p0.A0, .BC (CW 256 (AD.int .u8) x4.BV ++ [Ai x4.An, vs (eI .i32) x4.BT, vs eB x4.A9])])] F := (HH.H2 (A.front 0 rfl) 1)
  obtain ⟨h5, A1, hy0⟩ := (A.front 0 rfl).Xw
  replace A : HH g h5 [] F := A1
  have hz0 := hy0 [.str p0.Text, .bool p0.CD, .bool p0.Fold, .bool p0.A0, .BC (CW 256 (AD.int .u8) x4.BV ++ [Ai x4.An, vs (eI .i32) x4.BT, vs eB x4.A9])] h5 (by simp only [PG, PZ, Po, PW, Pd, PI, PE, PK, PJ, PV, Pa, Pj, PM, HL, HK, G2, HB, HF, HM, G3, Option.map_some, AB] <;> rfl)
  refine ⟨.tuple [.BC [.str p0.Text, .bool p0.CD, .bool p0.Fold, .bool p0.A0, .BC (CW 256 (AD.int .u8) x4.BV ++ [Ai x4.An, vs (eI .i32) x4.BT, vs eB x4.A9])], Ai 0, Ai 0], h5, by first | rfl | (simp only [PG, PZ, Po, PW, Pd, PI, PE, PK, PJ, PV, Pa, Pj, PM, HL, HK, G2, HB, HF, HM, G3, Option.map_some, AB, hz0] <;> rfl), ?_⟩
  exact .inl ⟨(⟨p0, x4⟩ : Al), rfl, rfl, A⟩
 replace A := A.g11 A1
 refine BD 2 [] 30 hr H fun fr t H => ?_
 refine Bk 5 [(2, .ptr (some (h.size, 0))), (9, Ai x5), (10, .ptr none)] H fun fr H => BF id (AV (AH 2 (AP 2 [(34, .bool (x5 != 0))] H fun fr H => Ak 34 H hm (fun hb hm H => ?_) fun hb hm H => ?_)))
 ·refine AH 4 (AP 4 [(4, .ptr none), (5, Ai 0), (6, Ai x5)] H fun fr H => AY ?_)
  obtain ⟨rfl, rfl, rfl⟩ := HY hm
  refine ⟨.inl rfl, .tuple [.ptr none, Ai 0, Ai x5], rH H, ?_⟩
  replace A := A.d0
  refine ⟨.tuple [.ptr none, Ai 0, Ai x5], h3, by first | rfl | (simp only [PG, PZ, Po, PW, Pd, PI, PE, PK, PJ, PV, Pa, Pj, PM, HL, HK, G2, HB, HF, HM, G3, Option.map_some] <;> rfl), ?_⟩
  exact .inr ⟨rfl, rfl, A⟩
 refine Cc 7 id (As 36 _ _ H (fun fr => .of (B5 (by kernel_rfl) (A.GQ 1 rfl (o := 0) (n := 4) ⟨Nat.le_of_ble_eq_true rfl, rfl⟩))) fun fr t H => ?_)
 obtain ⟨h6, e3, A⟩ := A.pu (.cells none 2 [.str p0.Text, .bool p0.CD, .bool p0.Fold, .bool p0.A0, .ptr none])
 refine JI 2 [] 39 (.ptr (some (h3.size, 0))) e3 H fun fr t H => ?_
 refine AP 3 [(4, .ptr (some (h3.size, 0))), (5, Ai 0), (6, Ai 0)] H fun fr H => AY ?_
 cases hm
def Hn (p0 : List AS) (p1 : Int) (s : (List Al) × Int) : Option (((List Al) × Int) ⊕ (((List Al)) ⊕ (Int))) :=
 match s with
 | (x1, x2) => Af (decide (x2 < (p0.length : Int))) ((GP p0 x2).bind fun x5 => (JZ x5 p1).bind fun (w2, x7, x8) => (match w2 with | some x6 => Af (x8 != 0) (some (.inr (.inr x8))) (Fh (Np 8 (x1.length + ([x6] : List Al).length)) <| some (.inl ((x1 ++ ([x6] : List Al)), IntKind.i64.wrap (x2 + 1)))) | none => Af (x8 != 0) (some (.inr (.inr x8))) (none))) (some (.inr (.inl x1)))
def Fy (p0 : List AS) (p1 : Int) : Option ((List Al) × Int) :=
 (loop (Hn p0 p1) (([] : List Al), (0 : Int))).bind fun o1 => (match o1 with | .inl x3 => some (x3, (0 : Int)) | .inr x4 => some (([] : List Al), x4))
theorem Iv {p0 p1 q0 q1} (hm : Fy p0 p1 = some (q0, q1)) (A : HH g h [] F) (hc : BH (cfg.still 31) av = [vs AE p0, Ai p1] := by kernel_rfl) : ∃ v h', BN cfg g h 31 av v h' ∧ ∃ (rq0 : Option Nat), v = .tuple [AF rq0 q0.length, Ai q1] ∧ HH g h' [.AL rq0 136 (AL (eP AB) q0)] F := by
 refine Dr 34 [.tmp 4, .tmp 5] hc ?_
 clear hc
 unfold Fy at hm
 refine bg 34 [(0, vs AE p0), (1, Ai p1)] fun fr H => ?_
 refine AH 2 (Bn 2 [] 1 H fun fr H => AP 1 [(6, .slice none 0)] H fun fr H => AV (AH 3 (AP 3 [(12, vs AE p0), (13, Ai (p0.length : Int)), (14, Ai 0)] H fun fr H => Aa (id := 0) (by kernel_rfl) ?_)))
 replace A : HH g h [.AL none 136 (AL (eP AB) ([] : List Al))] F := A.I5 136
 obtain ⟨o1, ho, hm⟩ := bind_some hm
 refine BG (Q' := fun e fr' h' => (∃ x3, e = .exit 0 ∧ .inl x3 = o1 ∧ ∃ r2, Has fr' 34 [(6, AF r2 x3.length)] ∧ HH g h' [.AL r2 136 (AL (eP AB) x3)] F) ∨ (∃ x4, e = .ret ∧ .inr x4 = o1 ∧ Has fr' 34 [(4, .slice none 0), (5, Ai x4)] ∧ HH g h' [] F) ∨ False) ?_ ?_
 ·refine Bv (by kernel_rfl) (fun (s : (List Al) × Int) fr' h' => ∃ x1 x2, (x1, x2) = s ∧ ∃ r1, Has fr' 34 [(1, Ai p1), (6, AF r1 x1.length), (12, vs AE p0), (13, Ai (p0.length : Int)), (14, Ai x2)] ∧ HH g h' [.AL r1 136 (AL (eP AB) x1)] F) ho ⟨_, _, rfl, none, H.ls, A⟩ ?_
  clear ho hm H A
  intro s q fr h1 hI hm
  obtain ⟨x1, x2, rfl, r1, H, A⟩ := hI
  unfold Hn at hm
  refine AH 1 (AP 1 [(15, .bool (decide (x2 < (p0.length : Int))))] H fun fr H => AV (Ak 15 H hm (fun hb hm H => ?_) fun hb hm H => ?_))
  ·refine Br id (AV (Aa (id := 1) (by kernel_rfl) ?_))
   refine AH 4 ?_
   obtain ⟨x5, hx, hm⟩ := bind_some hm
   refine As 16 (.BC (AE x5)) h1 H (fun fr => .of (Ht (e := AE) (x := x5) CF (by decide) (by kernel_rfl) hx)) fun fr t H => ?_
   refine As 17 (.agg (AE x5)) h1 H (fun fr => .of (IQ (by kernel_rfl))) fun fr t H => ?_
   obtain ⟨h2, e1, A⟩ := A.pu (.cells none 2 [.str ([] : List UInt8), .bool false, .bool false, .bool false])
   refine A7 8 (.ptr (some (h1.size, 0))) e1 H fun fr t H => ?_
   obtain ⟨h3, hx, A⟩ := A.s0 0 (AE x5) [_, _, _, _]
   refine FX hx H fun fr t H => ?_
   refine Cb 10 id (As 19 _ _ H (fun fr => .of (B5 (by kernel_rfl) (A.GQ 0 rfl (o := 0) (n := 4) ⟨Nat.le_of_ble_eq_true rfl, rfl⟩))) fun fr t H => ?_)
   obtain ⟨⟨w2, x7, x8⟩, hx, hm⟩ := bind_some hm
   obtain ⟨v1, h4, hr, hc⟩ := OR (av := [.agg (AE x5), Ai p1]) hx (A.cut 0)
   rcases hc with ⟨x6, rfl, rfl, A1⟩ | ⟨rfl, rfl, A1⟩
   ·replace A := A.E8 A1
    refine BD 1 [] 21 hr H fun fr t H => ?_
    refine AP 7 [(9, .BC (AB x6)), (11, Ai x8)] H fun fr H => AV (AH 2 (AP 2 [(26, .bool (x8 != 0))] H fun fr H => Ak 26 H hm (fun hb hm H => ?_) fun hb hm H => ?_))
    ·refine AH 3 (AP 3 [(4, .slice none 0), (5, Ai x8)] H fun fr H => AY ?_)
     replace A := A.d0
     exact nr hm fun e => Or.inr (.inl ⟨_, rfl, e, H.ls, A⟩)
    refine Fg 5 id (AG 2 [(28, AF r1 x1.length), (29, .BC (AB x6))] H fun fr H => ?_)
    obtain ⟨h5, e2, A⟩ := A.pL 136 [.BC (AB x6)]
    refine A7 30 (AF (some h4.size) (([x6] : List Al).length)) e2 H fun fr t H => ?_
    obtain ⟨hb, hm⟩ := BQ hm
    obtain ⟨r3, h6, hx, A1⟩ := HH.Lo (Qb _) (by decide) A 2 (xs := x1) (ys := ([x6] : List Al)) rfl (DM A 0 rfl (n := ([x6] : List Al).length) (z := 1) rfl (by decide)) rfl rfl hb
    replace A : HH g h6 [.AL (some h4.size) 136 ([.BC (AB x6)]), _, .AL r3 136 (AL (eP AB) (x1 ++ ([x6] : List Al)))] F := A1
    replace A := A.k2 1 2
    refine As 31 _ _ H (fun fr => .of (IE (s := DP r1 x1.length) (by kernel_rfl) hx)) fun fr t H => ?_
    refine Bk 1 [(1, Ai p1), (6, AF r3 ((x1 ++ ([x6] : List Al)).length)), (12, vs AE p0), (13, Ai (p0.length : Int)), (14, Ai x2)] H fun fr H => Ij 2 id (Bk 2 [(1, Ai p1), (6, AF r3 ((x1 ++ ([x6] : List Al)).length)), (12, vs AE p0), (13, Ai (p0.length : Int)), (14, Ai (IntKind.i64.wrap (x2 + 1)))] H fun fr H => at_nil ?_)
    replace A := A.k1 1
    exact nx hm ⟨_, _, rfl, _, H.ls, A⟩
   replace A := A.E8 A1
   refine BD 1 [] 21 hr H fun fr t H => ?_
   refine AP 7 [(9, .ptr none), (11, Ai x8)] H fun fr H => AV (AH 2 (AP 2 [(26, .bool (x8 != 0))] H fun fr H => Ak 26 H hm (fun hb hm H => ?_) fun hb hm H => ?_))
   ·refine AH 3 (AP 3 [(4, .slice none 0), (5, Ai x8)] H fun fr H => AY ?_)
    replace A := A.d0
    exact nr hm fun e => Or.inr (.inl ⟨_, rfl, e, H.ls, A⟩)
   refine Fg 5 id (AG 2 [(28, AF r1 x1.length), (29, .ptr none)] H fun fr H => ?_)
   cases hm
  refine Bh (i := 0) (by kernel_rfl) ?_
  exact nr hm fun e => .inl ⟨_, rfl, e, _, H.ls, A⟩
 clear ho
 clear A
 intro e fr h7 hQ
 rcases hQ with ⟨x3, rfl, rfl, r2, H, A⟩ | ⟨x4, rfl, rfl, H, A⟩ | hF
 ·show AW _ _ _ _ _ _ _
  refine AH 3 (AP 3 [(4, AF r2 x3.length), (5, Ai 0)] H fun fr H => AY ?_)
  obtain ⟨rfl, rfl⟩ := C9 hm
  exact ⟨.inl rfl, _, rH H, _, rfl, A⟩
 ·obtain ⟨rfl, rfl⟩ := C9 hm
  refine ⟨.inl rfl, .tuple [.slice none 0, Ai x4], rH H, ?_⟩
  replace A : HH g h7 [.AL none 136 (AL (eP AB) ([] : List Al))] F := A.I5 136
  exact ⟨none, rfl, A⟩
 exact hF.elim
def LK (p0 : List Az) (s : Int) : Option ((Int) ⊕ ((Unit))) :=
 match s with
 | x1 => Af (decide (x1 < (p0.length : Int))) ((GP p0 x1).bind fun x2 => none) (some (.inr ()))
def K3 (p0 : List Az) (p1 : Int) (p2 : Int) : Option ((Option CT) × Int × Int) :=
 Af ((decide (p2 < 1)) || (decide (p2 > 4096))) (some (none, (0 : Int), (6 : Int))) (Af (decide ((p0.length : Int) > 256)) (some (none, (0 : Int), (8 : Int))) ((loop (LK p0) (0 : Int)).bind fun _ => some (some (⟨([] : List Ee), p2⟩ : CT), (0 : Int), (0 : Int))))
theorem Q5 {p0 p1 p2 o0 q1 q2} (hm : K3 p0 p1 p2 = some (o0, q1, q2)) (A : HH g h [] F) (hc : BH (cfg.still 32) av = [vs AI p0, Ai p1, Ai p2] := by kernel_rfl) : ∃ v h', BN cfg g h 32 av v h' ∧ ((∃ (bq00 : Nat) (rq00_0 : Option Nat) (q00 : CT), o0 = some q00 ∧ v = .tuple [.ptr (some (bq00, 0)), Ai q1, Ai q2] ∧ HH g h' [.obj bq00 (.cells none 2 [AF rq00_0 q00.l_.length, Ai q00.BM]), .AL rq00_0 142 (AL (eP AJ) q00.l_)] F) ∨ (o0 = none ∧ v = .tuple [.ptr none, Ai q1, Ai q2] ∧ HH g h' [] F)) := by
 refine Dr 59 [.tmp 6, .tmp 7, .tmp 8] hc ?_
 clear hc
 unfold K3 at hm
 refine bg 59 [(0, vs AI p0), (1, Ai p1), (2, Ai p2)] fun fr H => ?_
 refine AH 3 (AP 3 [] H fun fr H => AV (Aa (id := 0) (by kernel_rfl) ?_))
 refine AH 7 (AG 3 [(18, .bool (decide (p2 < 1)))] H fun fr H => Aq 3 (fun fr' h' => h = h' ∧ Has fr' 59 [(0, vs AI p0), (1, Ai p1), (2, Ai p2), (21, .bool ((decide (p2 < 1)) || (decide (p2 > 4096))))]) ?_ ?_)
 ·cases hb : (decide (p2 < 1) : Bool) with
  | true =>
   replace H := H.kn 18 hb
   exact AG 3 [(21, .bool true)] H fun fr H => Ap H hb
  | false =>
   replace H := H.kn 18 hb
   exact AG 3 [(21, .bool (decide (p2 > 4096)))] H fun fr H => Ap H hb
 intro t fr h' hK
 obtain ⟨e, H⟩ := hK
 subst e
 refine AP 1 [(15, .bool ((decide (p2 < 1)) || (decide (p2 > 4096))))] H fun fr H => Ak 15 H hm (fun hb hm H => ?_) fun hb hm H => ?_
 ·refine AH 3 (AP 3 [(6, .ptr none), (7, Ai 0), (8, Ai 6)] H fun fr H => AY ?_)
  obtain ⟨rfl, rfl, rfl⟩ := HY hm
  refine ⟨.inl rfl, .tuple [.ptr none, Ai 0, Ai 6], rH H, ?_⟩
  exact .inr ⟨rfl, rfl, A⟩
 refine AH 4 (AP 4 [(22, .bool (decide ((p0.length : Int) > 256)))] H fun fr H => Ak 22 H hm (fun hb hm H => ?_) fun hb hm H => ?_)
 ·refine AH 3 (AP 3 [(6, .ptr none), (7, Ai 0), (8, Ai 8)] H fun fr H => AY ?_)
  obtain ⟨rfl, rfl, rfl⟩ := HY hm
  refine ⟨.inl rfl, .tuple [.ptr none, Ai 0, Ai 8], rH H, ?_⟩
  exact .inr ⟨rfl, rfl, A⟩
 refine Cc 4 id ?_
 obtain ⟨h1, e1, A⟩ := A.pu (.cells none 2 [.slice none 0, Ai p2])
 refine JI 2 [] 28 (.ptr (some (h.size, 0))) e1 H fun fr t H => ?_
 refine AP 1 [(9, .ptr (some (h.size, 0)))] H fun fr H => AV (AH 3 (AP 3 [(29, vs AI p0), (30, Ai (p0.length : Int)), (31, Ai 0)] H fun fr H => Aa (id := 1) (by kernel_rfl) ?_))
 obtain ⟨o1, ho, hm⟩ := bind_some hm
 refine BG (Q' := fun e fr' h' => (e = .exit 1 ∧ () = o1 ∧ Has fr' 59 [(9, .ptr (some (h.size, 0)))] ∧ HH g h' [.obj h.size (.cells none 2 [.slice none 0, Ai p2])] F) ∨ False) ?_ ?_
 ·refine Bv (by kernel_rfl) (fun (s : Int) fr' h' => ∃ x1, x1 = s ∧ Has fr' 59 [(1, Ai p1), (9, .ptr (some (h.size, 0))), (29, vs AI p0), (30, Ai (p0.length : Int)), (31, Ai x1)] ∧ HH g h' [.obj h.size (.cells none 2 [.slice none 0, Ai p2])] F) ho ⟨_, rfl, H.ls, A⟩ ?_
  clear ho hm H A
  intro s q fr h2 hI hm
  obtain ⟨x1, rfl, H, A⟩ := hI
  unfold LK at hm
  refine AH 1 (AP 1 [(32, .bool (decide (x1 < (p0.length : Int))))] H fun fr H => AV (Ak 32 H hm (fun hb hm H => ?_) fun hb hm H => ?_))
  ·refine Br id (AV (Aa (id := 2) (by kernel_rfl) ?_))
   refine AH 6 ?_
   obtain ⟨x2, hx, hm⟩ := bind_some hm
   refine Ax 1 [(33, Ai x1)] 34 (.BC (AI x2)) h2 H (fun fr => .of (Ht (e := AI) (x := x2) Ed (by decide) (by kernel_rfl) hx)) fun fr t H => ?_
   refine As 35 (.agg (AI x2)) h2 H (fun fr => .of (IQ (by kernel_rfl))) fun fr t H => ?_
   obtain ⟨h3, e2, A⟩ := A.pu (.cells none 2 [.str ([] : List UInt8), .str ([] : List UInt8), .bool false, .bool false, .bool false, Ai 0, .bool false, .bool false, .bool false])
   refine A7 11 (.ptr (some (h2.size, 0))) e2 H fun fr t H => ?_
   obtain ⟨h4, hx, A⟩ := A.s0 0 (AI x2) [_, _, _, _, _, _, _, _, _]
   refine Fs 1 [(10, Ai x1)] hx H fun fr t H => ?_
   refine Cb 10 id (As 37 _ _ H (fun fr => .of (B5 (by kernel_rfl) (A.GQ 0 rfl (o := 0) (n := 9) ⟨Nat.le_of_ble_eq_true rfl, rfl⟩))) fun fr t H => ?_)
   cases hm
  refine Bh (i := 1) (by kernel_rfl) ?_
  exact nr hm fun e => .inl ⟨rfl, e, H.ls, A⟩
 clear ho
 clear A
 intro e fr h5 hQ
 rcases hQ with ⟨rfl, rfl, H, A⟩ | hF
 ·show AW _ _ _ _ _ _ _
  refine AH 4 (AP 4 [(6, .ptr (some (h.size, 0))), (7, Ai 0), (8, Ai 0)] H fun fr H => AY ?_)
  obtain ⟨rfl, rfl, rfl⟩ := HY hm
  refine ⟨.inl rfl, .tuple [.ptr (some (h.size, 0)), Ai 0, Ai 0], rH H, ?_⟩
  replace A : HH g h5 [.AL none 142 (AL (eP AJ) ([] : List Ee)), .obj h.size (.cells none 2 [AF none (([] : List Ee).length), Ai p2])] F := A.I5 142
  replace A := A.k2 1 0
  exact .inl ⟨h.size, none, (⟨([] : List Ee), p2⟩ : CT), rfl, rfl, A⟩
 exact hF.elim
def F6 : Option (BA) :=
 some (⟨([] : List ((List UInt8) × Bool))⟩ : BA)
theorem Ke {q00} (hm : F6 = some q00) (A : HH g h [] F) (hc : BH (cfg.still 46) av = [] := by kernel_rfl) : ∃ v h', BN cfg g h 46 av v h' ∧ ∃ (bq00 : Nat) (bq00_0 : Nat), v = .ptr (some (bq00, 0)) ∧ HH g h' [.obj bq00 (.cells none 2 [.map (some bq00_0)]), .obj bq00_0 (.map 2 (BZ (fun k : List UInt8 => .str k) (fun v : Bool => .bool v) q00.DD))] F := by
 refine Dr 4 [.tmp 0] hc ?_
 clear hc
 unfold F6 at hm
 refine bg 4 [] fun fr H => ?_
 refine AH 1 (Bn 1 [] 4 H fun fr H => ?_)
 obtain ⟨h1, e1⟩ : ∃ x, x = h.push (.map 2 []) := ⟨_, rfl⟩
 replace A : HH g h1 [.obj h.size (.map 2 (BZ (fun k : List UInt8 => .str k) (fun v : Bool => .bool v) ([] : List ((List UInt8) × Bool))))] F := (A.push _).to e1
 refine A7 1 (.map (some h.size)) e1 H fun fr t H => ?_
 obtain ⟨h2, e2, A⟩ := A.pu (.cells none 2 [.map (some h.size)])
 refine JI 1 [] 3 (.ptr (some (h1.size, 0))) e2 H fun fr t H => ?_
 refine AP 1 [(0, .ptr (some (h1.size, 0)))] H fun fr H => AY ?_
 obtain rfl := Ag hm
 exact ⟨.inl rfl, _, rH H, _, _, rfl, A⟩
end
end Go.Av.L
