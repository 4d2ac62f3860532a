/-
 Models of functions, and that the abstract run tells them. Written by lift2.py.
-/
import Derived.Test.YthnnciphldbmeaaGreatDoorKCfg
import Derived.Test.YthnnciphldbmeaaGreatDoorK0
import Derived.Test.YthnnciphldbmeaaGreatDoorK1
namespace Go.Av.L
open Go.Av Go.Lib
set_option maxRecDepth 10000
set_option maxHeartbeats 4000000
set_option linter.unusedVariables false
set_option linter.unusedSimpArgs false
variable {g : Gd} {h : AH} {F : List Ck} {av : List AA}
noncomputable section
def Gg (p0 : List UInt8) : Option ((List UInt8)) :=
 Aa ((p0 == ([] : List UInt8)) || (([0] : List UInt8) == ([] : List UInt8))) (some p0) ((C7 p0 (0 : Int)).bind fun x1 => (EC x1 (0 : Int)).bind fun x2 => some x2)
theorem Ls {p0 q0} (hm : Gg p0 = some q0) (A : HH g h [] F) (hc : BF (cfg.still 248) av = [.str p0, .str ([0] : List UInt8)] := by kernel_rfl) : ∃ v h', BL cfg g h 248 av v h' ∧ v = .str q0 ∧ HH g h' [] F := by
 refine Dr 43 [.tmp 4] hc ?_
 clear hc
 unfold Gg at hm
 refine bg 43 [(0, .str p0), (1, .str ([0] : List UInt8))] fun fr H => ?_
 refine AG 1 (AO 1 [] H fun fr H => AQ (AG 6 (AK 3 [(9, .bool (p0 == ([] : List UInt8)))] H fun fr H => A9 3 (fun fr' h' => h = h' ∧ Has fr' 43 [(0, .str p0), (1, .str ([0] : List UInt8)), (12, .bool ((p0 == ([] : List UInt8)) || (([0] : List UInt8) == ([] : List UInt8))))]) ?_ ?_)))
 ·cases hb : (p0 == ([] : List UInt8) : Bool) with
  | true =>
   replace H := H.kn 9 hb
   exact AK 3 [(12, .bool true)] H fun fr H => BH H hb
  | false =>
   replace H := H.kn 9 hb
   exact AK 3 [(12, .bool (([0] : List UInt8) == ([] : List UInt8)))] H fun fr H => BH H hb
 intro t fr h' hK
 obtain ⟨e, H⟩ := hK
 subst e
 refine BJ id (Ad 12 H hm (fun hb hm H => ?_) fun hb hm H => ?_)
 ·refine AG 2 (AO 2 [(4, .str p0)] H fun fr H => AU ?_)
  obtain rfl := AY hm
  exact ⟨.inl rfl, _, rH H, rfl, A⟩
 refine Bf id (AQ (AG 8 (AO 8 [(21, .bool true)] H fun fr H => HB (x := .tmp 21) (by kernel_rfl) H (fun fr => by kernel_rfl) ?_)))
 refine AQ (Ep 4 8 ?_)
 obtain ⟨x1, hx, hm⟩ := bind_some hm
 obtain ⟨v1, h1, hr, rfl, A1⟩ := GV (av := [.str p0, Ab 0]) hx (A.cut 0)
 replace A := A.EX A1
 refine A0 3 [] 25 hr H fun fr t H => ?_
 obtain ⟨x2, hx, hm⟩ := bind_some hm
 obtain ⟨v1, h2, hr, rfl, A1⟩ := Gn (av := [.str x1, Ab 0]) hx (A.cut 0)
 replace A := A.EX A1
 refine A0 2 [] 28 hr H fun fr t H => ?_
 refine AO 1 [(4, .str x2)] H fun fr H => AU ?_
 obtain rfl := AY hm
 exact ⟨.inl rfl, _, rH H, rfl, A⟩
def Ca (p0 : Bx) (p1 : List UInt8) : Option (Int × Bool × (List Bool) × (List ((List UInt8) × Int)) × (List (List UInt8))) :=
 (Gg p1).bind fun x1 => Aa (x1 == ([] : List UInt8)) (some ((-1 : Int), true, p0.t_.A7, p0.B6, p0.Bs)) (Aa ((Di p0.B6 p1).isSome) (some (((Di p0.B6 p1).getD (0 : Int)), true, p0.t_.A7, p0.B6, p0.Bs)) (Aa ((p0.t_.A7.length : Int) == p0.EW) (some ((0 : Int), false, p0.t_.A7, p0.B6, p0.Bs)) ((RD p1 (B3 .i64 (p0.l_.length : Int) (3 : Int))).bind fun x2 => Em (decide (0 ≤ (CM .i64 (p0.l_.length : Int) (7 : Int)))) <| Em (Nd 1 (p0.t_.A7.length + ([(CM .u8 (B3 .u8 x2 (CM .i64 (p0.l_.length : Int) (7 : Int))) (1 : Int)) == 1] : List Bool).length)) <| Em (Nd 16 (p0.Bs.length + ([p1] : List (List UInt8)).length)) <| some (IntKind.i32.wrap (p0.t_.A7.length : Int), true, (p0.t_.A7 ++ ([(CM .u8 (B3 .u8 x2 (CM .i64 (p0.l_.length : Int) (7 : Int))) (1 : Int)) == 1] : List Bool)), (F7 p0.B6 p1 (IntKind.i32.wrap (p0.t_.A7.length : Int))), (p0.Bs ++ ([p1] : List (List UInt8)))))))
theorem Eo {p0 p1 bp0 rp0_0 bp0_4 rp0_4_2 rp0_4_3 rp0_5 bp0_6 rp0_7 q0 q1 u4 u6 u7} (hm : Ca p0 p1 = some (q0, q1, u4, u6, u7)) (A : HH g h [.obj bp0 (.cells none 2 [AF rp0_0 p0.l_.length, .bool p0.f_.Fold, .bool p0.f_.Aw, Ai p0.EW, .ptr (some (bp0_4, 0)), AF rp0_5 p0.DP.length, .map (some bp0_6), AF rp0_7 p0.Bs.length]), .AI rp0_0 264 (AI AM p0.l_), .obj bp0_4 (.cells none 2 (Cj 256 (AA.int .u8) p0.t_.BP ++ [Ai p0.t_.An, AF rp0_4_2 p0.t_.BO.length, AF rp0_4_3 p0.t_.A7.length])), .AI rp0_4_2 21 (AI (eI .i32) p0.t_.BO), .AI rp0_4_3 4 (AI eB p0.t_.A7), .AI rp0_5 5 (AI eY p0.DP), .obj bp0_6 (.map 2 (BS (fun k : List UInt8 => .str k) (fun v : Int => .int .i32 v) p0.B6)), .AI rp0_7 9 (AI eS p0.Bs)] F) (hc : BF (cfg.still 181) av = [.ptr (some (bp0, 0)), .str p1] := by kernel_rfl) : ∃ v h', BL cfg g h 181 av v h' ∧ ∃ (r'4 : Option Nat) (r'7 : Option Nat), v = .tuple [.int .i32 q0, .bool q1] ∧ HH g h' [.obj bp0 (.cells none 2 [AF rp0_0 p0.l_.length, .bool p0.f_.Fold, .bool p0.f_.Aw, Ai p0.EW, .ptr (some (bp0_4, 0)), AF rp0_5 p0.DP.length, .map (some bp0_6), AF r'7 u7.length]), .AI rp0_0 264 (AI AM p0.l_), .obj bp0_4 (.cells none 2 (Cj 256 (AA.int .u8) p0.t_.BP ++ [Ai p0.t_.An, AF rp0_4_2 p0.t_.BO.length, AF r'4 u4.length])), .AI rp0_4_2 21 (AI (eI .i32) p0.t_.BO), .AI r'4 4 (AI eB u4), .AI rp0_5 5 (AI eY p0.DP), .obj bp0_6 (.map 2 (BS (fun k : List UInt8 => .str k) (fun v : Int => .int .i32 v) u6)), .AI r'7 9 (AI eS u7)] F := by
 refine Dr 92 [.tmp 4, .tmp 5] hc ?_
 clear hc
 unfold Ca at hm
 refine bg 92 [(0, .ptr (some (bp0, 0))), (1, .str p1)] fun fr H => ?_
 refine AG 2 (AO 2 [] H fun fr H => AQ (AG 3 ?_))
 obtain ⟨x1, hx, hm⟩ := bind_some hm
 obtain ⟨v1, h1, hr, rfl, A1⟩ := Ls (av := [.str p1, .str ([0] : List UInt8)]) hx (A.cut 0)
 replace A := A.EX A1
 refine A0 1 [] 11 hr H fun fr t H => ?_
 refine AO 1 [(12, .bool (x1 == ([] : List UInt8)))] H fun fr H => Ad 12 H hm (fun hb hm H => ?_) fun hb hm H => ?_
 ·refine AG 2 (AO 2 [(4, .int .i32 (-1)), (5, .bool true)] H fun fr H => AU ?_)
  obtain ⟨rfl, rfl, rfl, rfl, rfl⟩ := WQ hm
  exact ⟨.inl rfl, _, rH H, _, _, rfl, A⟩
 refine Bf id (AQ (AG 11 (Ag 3 [] 17 0 6 A H fun fr t H => ?_)))
 refine Ap 1 [] 19 (.tuple [.int .i32 ((Di p0.B6 p1).getD (0 : Int)), .bool ((Di p0.B6 p1).isSome)]) h1 H (fun fr => .of (Tj (by kernel_rfl) (HH.T3 (kt := 9) (et := 21) (ek := fun k : List UInt8 => .str k) (ev := fun v : Int => .int .i32 v) (Rk (by kernel_rfl)) A 6 rfl (t := 273) (by kernel_rfl) (z := (0 : Int)) (by kernel_rfl) p1))) fun fr t H => ?_
 refine Bc 5 [(6, .int .i32 ((Di p0.B6 p1).getD (0 : Int))), (7, .bool ((Di p0.B6 p1).isSome))] 1 H fun fr H => AO 1 [(22, .bool ((Di p0.B6 p1).isSome))] H fun fr H => Ad 22 H hm (fun hb hm H => ?_) fun hb hm H => ?_
 ·refine AG 3 (AO 3 [(4, .int .i32 ((Di p0.B6 p1).getD (0 : Int))), (5, .bool true)] H fun fr H => AU ?_)
  obtain ⟨rfl, rfl, rfl, rfl, rfl⟩ := WQ hm
  exact ⟨.inl rfl, _, rH H, _, _, rfl, A⟩
 refine Bf id (AQ (AQ (Ep 6 13 ?_)))
 refine Ag 3 [] 27 0 4 A H fun fr t H => ?_
 refine Ap 2 [] 30 (AF rp0_4_3 p0.t_.A7.length) h1 H (fun fr => .of (Da (by kernel_rfl) (A.OI 2 rfl (o := 258) (by kernel_rfl)))) fun fr t H => ?_
 refine Ag 4 [(31, Ai (p0.t_.A7.length : Int))] 35 0 3 A H fun fr t H => ?_
 refine AO 1 [(36, .bool ((p0.t_.A7.length : Int) == p0.EW))] H fun fr H => Ad 36 H hm (fun hb hm H => ?_) fun hb hm H => ?_
 ·refine AG 2 (AO 2 [(4, .int .i32 0), (5, .bool false)] H fun fr H => AU ?_)
  obtain ⟨rfl, rfl, rfl, rfl, rfl⟩ := WQ hm
  exact ⟨.inl rfl, _, rH H, _, _, rfl, A⟩
 refine Ce 10 id (Ag 3 [] 40 0 4 A H fun fr t H => ?_)
 refine Ap 2 [] 43 (AF rp0_4_3 p0.t_.A7.length) h1 H (fun fr => .of (Da (by kernel_rfl) (A.OI 2 rfl (o := 258) (by kernel_rfl)))) fun fr t H => ?_
 refine Bc 3 [(8, .int .i32 (IntKind.i32.wrap (p0.t_.A7.length : Int)))] 6 H fun fr H => Ag 3 [] 49 0 0 A H fun fr t H => ?_
 refine Bc 2 [(9, Ai (p0.l_.length : Int))] 7 H fun fr H => Ag 3 [] 54 0 6 A H fun fr t H => ?_
 refine AK 2 [(55, .str p1), (56, .int .i32 (IntKind.i32.wrap (p0.t_.A7.length : Int)))] H fun fr H => ?_
 obtain ⟨h2, hx, A1⟩ := HH.V5 (kt := 9) (et := 21) (ek := fun k : List UInt8 => .str k) (ev := fun v : Int => .int .i32 v) (Rk (by kernel_rfl)) A 6 rfl (t := 273) (by kernel_rfl) p1 (IntKind.i32.wrap (p0.t_.A7.length : Int))
 replace A : HH g h2 [_, _, _, _, _, _, .obj bp0_6 (.map 2 (BS (fun k : List UInt8 => .str k) (fun v : Int => .int .i32 v) (F7 p0.B6 p1 (IntKind.i32.wrap (p0.t_.A7.length : Int))))), _] F := A1
 refine Mg (.tuple []) h2 H (fun fr => .of (UG (by kernel_rfl) hx)) fun fr t H => ?_
 refine BJ id (AQ (L0 11 25 [(0, []), (1, []), (2, []), (3, []), (4, []), (5, []), (6, []), (7, []), (8, []), (9, []), (10, []), (11, []), (12, []), (13, []), (14, []), (15, []), (16, []), (17, []), (18, []), (19, []), (20, []), (21, [3]), (22, []), (23, []), (24, [])] ?_))
 refine AK 3 [(59, .ptr (some (bp0, 4)))] H fun fr H => DE 60 (.ptr (some (bp0_4, 0))) h2 [(3, bp0)] (g.Bq) H (fun fr => .of (Da (by kernel_rfl) (A.l1 0 4))) (fun fr H => ?_)
 refine AK 3 [(63, .ptr (some (bp0, 4)))] H fun fr H => DE 64 (.ptr (some (bp0_4, 0))) h2 [(7, bp0), (3, bp0)] (g.Bq) H (fun fr => .of (Da (by kernel_rfl) (A.l1 0 4))) (fun fr H => ?_)
 refine AK 2 [(66, .ptr (some (bp0_4, 258)))] H fun fr H => DE 67 (AF rp0_4_3 p0.t_.A7.length) h2 [(10, bp0_4), (7, bp0), (3, bp0)] (g.Bq) H (fun fr => .of (Da (by kernel_rfl) (A.OI 2 rfl (o := 258) (by kernel_rfl)))) (fun fr H => ?_)
 refine AK 3 [(68, .str p1), (70, Ai (B3 .i64 (p0.l_.length : Int) (3 : Int)))] H fun fr H => ?_
 obtain ⟨x2, hx, hm⟩ := bind_some hm
 refine DE 71 (Ab x2) h2 [(10, bp0_4), (7, bp0), (3, bp0)] (g.Bq) H (fun fr => .of (JG (by kernel_rfl) hx)) (fun fr H => ?_)
 refine AK 2 [(73, Ai (CM .i64 (p0.l_.length : Int) (7 : Int)))] H fun fr H => ?_
 obtain ⟨hb, hm⟩ := BE hm
 refine DE 74 (Ab (B3 .u8 x2 (CM .i64 (p0.l_.length : Int) (7 : Int)))) h2 [(10, bp0_4), (7, bp0), (3, bp0)] (g.Bq) H (fun fr => .of (Tc (by kernel_rfl) hb)) (fun fr H => ?_)
 refine AK 2 [(76, .bool ((CM .u8 (B3 .u8 x2 (CM .i64 (p0.l_.length : Int) (7 : Int))) (1 : Int)) == 1))] H fun fr H => ?_
 obtain ⟨h3, e1, A⟩ := A.pL 4 [.bool ((CM .u8 (B3 .u8 x2 (CM .i64 (p0.l_.length : Int) (7 : Int))) (1 : Int)) == 1)]
 refine DE 77 (AF (some h2.size) (([(CM .u8 (B3 .u8 x2 (CM .i64 (p0.l_.length : Int) (7 : Int))) (1 : Int)) == 1] : List Bool).length)) h3 [(20, h2.size), (10, bp0_4), (7, bp0), (3, bp0)] (g.Bq) H (fun fr => .of (VT (by kernel_rfl) (congrArg some e1.symm))) (fun fr H => ?_)
 replace A : HH g h3 [_, .AI (some h2.size) 4 ([.bool ((CM .u8 (B3 .u8 x2 (CM .i64 (p0.l_.length : Int) (7 : Int))) (1 : Int)) == 1)]), _, _, _, _, _, _, _] F := (A.front 5 rfl)
 have A1 := A.J1 1 (pr := [bp0]) (.cons 1 rfl (by simp [Ck.ids]) .nil)
 obtain ⟨hb, hm⟩ := BE hm
 obtain ⟨r1, h4, hx, A1⟩ := HH.Ko XN (by decide) A1 0 (xs := p0.t_.A7) (ys := ([(CM .u8 (B3 .u8 x2 (CM .i64 (p0.l_.length : Int) (7 : Int))) (1 : Int)) == 1] : List Bool)) rfl (Cu A 1 rfl (n := ([(CM .u8 (B3 .u8 x2 (CM .i64 (p0.l_.length : Int) (7 : Int))) (1 : Int)) == 1] : List Bool).length) (z := 1) rfl (by decide)) rfl rfl hb
 replace A := A.YO A1
 replace A := A.k8 0 2 3 4 5 6 7 8
 refine DE 78 (AF r1 ((p0.t_.A7 ++ ([(CM .u8 (B3 .u8 x2 (CM .i64 (p0.l_.length : Int) (7 : Int))) (1 : Int)) == 1] : List Bool)).length)) h4 [(20, h2.size), (10, bp0_4), (7, bp0), (3, bp0)] (bp0 :: g.Bq) H (fun fr => .of (Hh (s := Cs rp0_4_3 p0.t_.A7.length) (by kernel_rfl) hx)) (fun fr H => ?_)
 refine AK 2 [(80, .ptr (some (bp0_4, 258)))] H fun fr H => ?_
 obtain ⟨h5, hx, A1⟩ := A.st 3 rfl (o := 258) (new := [AF r1 ((p0.t_.A7 ++ ([(CM .u8 (B3 .u8 x2 (CM .i64 (p0.l_.length : Int) (7 : Int))) (1 : Int)) == 1] : List Bool)).length)]) (ds := (Cj 256 (AA.int .u8) p0.t_.BP ++ ([Ai p0.t_.An, AF rp0_4_2 p0.t_.BO.length, AF r1 ((p0.t_.A7 ++ ([(CM .u8 (B3 .u8 x2 (CM .i64 (p0.l_.length : Int) (7 : Int))) (1 : Int)) == 1] : List Bool)).length)]))) (Nat.le_of_ble_eq_true (by kernel_rfl)) rfl (by kernel_rfl)
 replace A : HH g h5 [_, _, _, .obj bp0_4 (.cells none 2 (Cj 256 (AA.int .u8) p0.t_.BP ++ ([Ai p0.t_.An, AF rp0_4_2 p0.t_.BO.length, AF r1 ((p0.t_.A7 ++ ([(CM .u8 (B3 .u8 x2 (CM .i64 (p0.l_.length : Int) (7 : Int))) (1 : Int)) == 1] : List Bool)).length)]))), _, _, _, _] F := A1
 refine Kv (.tuple []) h5 [(20, h2.size), (10, bp0_4), (7, bp0), (3, bp0)] (g.Bq) H (fun fr => .of (OU (by kernel_rfl) rfl hx)) (fun fr H => ?_)
 refine CX 11 id (Ag 4 [(81, .ptr (some (bp0, 0)))] 85 1 7 A H fun fr t H => ?_)
 refine AK 1 [(86, .str p1)] H fun fr H => ?_
 obtain ⟨h6, e2, A⟩ := A.pL 9 [.str p1]
 refine BB 87 (AF (some h5.size) (([p1] : List (List UInt8)).length)) e2 H fun fr t H => ?_
 obtain ⟨hb, hm⟩ := BE hm
 obtain ⟨r2, h7, hx, A1⟩ := HH.Ko encS (by decide) A 8 (xs := p0.Bs) (ys := ([p1] : List (List UInt8))) rfl (Cu A 0 rfl (n := ([p1] : List (List UInt8)).length) (z := 1) rfl (by decide)) rfl rfl hb
 replace A : HH g h7 [.AI (some h5.size) 9 ([.str p1]), _, _, _, _, _, _, _, .AI r2 9 (AI eS (p0.Bs ++ ([p1] : List (List UInt8))))] F := A1
 replace A := A.k8 1 2 3 4 5 6 7 8
 refine Aq 88 _ _ H (fun fr => .of (Hh (s := Cs rp0_7 p0.Bs.length) (by kernel_rfl) hx)) fun fr t H => ?_
 obtain ⟨h8, hx, A1⟩ := A.st 1 rfl (o := 7) (new := [AF r2 ((p0.Bs ++ ([p1] : List (List UInt8))).length)]) (ds := [AF rp0_0 p0.l_.length, .bool p0.f_.Fold, .bool p0.f_.Aw, Ai p0.EW, .ptr (some (bp0_4, 0)), AF rp0_5 p0.DP.length, .map (some bp0_6), AF r2 ((p0.Bs ++ ([p1] : List (List UInt8))).length)]) (Nat.le_of_ble_eq_true rfl) rfl rfl
 replace A : HH g h8 [_, .obj bp0 (.cells none 2 [_, _, _, _, _, _, _, AF r2 ((p0.Bs ++ ([p1] : List (List UInt8))).length)]), _, _, _, _, _, _] F := A1
 refine FJ 2 [] hx H fun fr t H => ?_
 refine CX 3 id (AO 3 [(4, .int .i32 (IntKind.i32.wrap (p0.t_.A7.length : Int))), (5, .bool true)] H fun fr H => AU ?_)
 obtain ⟨rfl, rfl, rfl, rfl, rfl⟩ := WQ hm
 refine ⟨.inl rfl, .tuple [.int .i32 (IntKind.i32.wrap (p0.t_.A7.length : Int)), .bool true], rH H, ?_⟩
 replace A := A.k8 1 2 3 4 0 5 6 7
 exact ⟨r1, r2, rfl, A⟩
def EZ (p0 : Bx) (p1 : List UInt8) (p2 : Int) (s : (List UInt8) × Int) : Option (((List UInt8) × Int) ⊕ (((List UInt8)))) :=
 match s with
 | (x1, x2) => Aa (decide (x2 < (p0.l_.length : Int))) (((Fc p0.l_ x2).bind fun x5 => (RD p1 (B3 .i64 x2 (3 : Int))).bind fun x6 => Em (decide (0 ≤ (CM .i64 x2 (7 : Int)))) <| Aa ((CM .u8 (B3 .u8 x6 (CM .i64 x2 (7 : Int))) (1 : Int)) == 0) (some x1) (Aa ((x5.Kind == 4) && (p0.f_.Aw || (p2 != 47))) ((Fc x1 (B3 .i64 x2 (3 : Int))).bind fun x7 => Em (decide (0 ≤ (CM .i64 x2 (7 : Int)))) <| (Fc x1 (B3 .i64 x2 (3 : Int))).bind fun x8 => (XW (Np .u8 (x7.toNat : Int) (Ki .u8 (1 : Int) (CM .i64 x2 (7 : Int))))).bind fun x9 => some (x1.set (B3 .i64 x2 (3 : Int)).toNat x9)) ((Aa (x5.Kind != 4) ((Co p0 x5 p2).bind fun x11 => some x11) (some false) : Option (Bool)).bind fun x10 => Aa x10 ((Fc x1 (B3 .i64 (IntKind.i64.wrap (x2 + 1)) (3 : Int))).bind fun x12 => Em (decide (0 ≤ (CM .i64 (IntKind.i64.wrap (x2 + 1)) (7 : Int)))) <| (Fc x1 (B3 .i64 (IntKind.i64.wrap (x2 + 1)) (3 : Int))).bind fun x13 => (XW (Np .u8 (x12.toNat : Int) (Ki .u8 (1 : Int) (CM .i64 (IntKind.i64.wrap (x2 + 1)) (7 : Int))))).bind fun x14 => some (x1.set (B3 .i64 (IntKind.i64.wrap (x2 + 1)) (3 : Int)).toNat x14)) (some x1))) : Option (((List UInt8)))).bind fun x4 => some (.inl (x4, IntKind.i64.wrap (x2 + 1)))) (some (.inr x1))
def DX (p0 : Bx) (p1 : List UInt8) (p2 : Int) : Option ((List UInt8)) :=
 Em (Ya 1 (p1.length : Int)) <| (loop (EZ p0 p1 p2) ((List.replicate (p1.length : Int).toNat (0 : UInt8)), (0 : Int))).bind fun x3 => (Cd p0 x3).bind fun (x15, x16) => some x15
theorem HI {p0 p1 p2 bp0 rp0_0 bp0_4 rp0_4_2 rp0_4_3 rp0_5 bp0_6 rp0_7 q0} (hm : DX p0 p1 p2 = some q0) (A : HH g h [.obj bp0 (.cells none 2 [AF rp0_0 p0.l_.length, .bool p0.f_.Fold, .bool p0.f_.Aw, Ai p0.EW, .ptr (some (bp0_4, 0)), AF rp0_5 p0.DP.length, .map (some bp0_6), AF rp0_7 p0.Bs.length]), .AI rp0_0 264 (AI AM p0.l_), .obj bp0_4 (.cells none 2 (Cj 256 (AA.int .u8) p0.t_.BP ++ [Ai p0.t_.An, AF rp0_4_2 p0.t_.BO.length, AF rp0_4_3 p0.t_.A7.length])), .AI rp0_4_2 21 (AI (eI .i32) p0.t_.BO), .AI rp0_4_3 4 (AI eB p0.t_.A7), .AI rp0_5 5 (AI eY p0.DP), .obj bp0_6 (.map 2 (BS (fun k : List UInt8 => .str k) (fun v : Int => .int .i32 v) p0.B6)), .AI rp0_7 9 (AI eS p0.Bs)] F) (hc : BF (cfg.still 183) av = [.ptr (some (bp0, 0)), .str p1, Ab p2] := by kernel_rfl) : ∃ v h', BL cfg g h 183 av v h' ∧ v = .str q0 ∧ HH g h' [.obj bp0 (.cells none 2 [AF rp0_0 p0.l_.length, .bool p0.f_.Fold, .bool p0.f_.Aw, Ai p0.EW, .ptr (some (bp0_4, 0)), AF rp0_5 p0.DP.length, .map (some bp0_6), AF rp0_7 p0.Bs.length]), .AI rp0_0 264 (AI AM p0.l_), .obj bp0_4 (.cells none 2 (Cj 256 (AA.int .u8) p0.t_.BP ++ [Ai p0.t_.An, AF rp0_4_2 p0.t_.BO.length, AF rp0_4_3 p0.t_.A7.length])), .AI rp0_4_2 21 (AI (eI .i32) p0.t_.BO), .AI rp0_4_3 4 (AI eB p0.t_.A7), .AI rp0_5 5 (AI eY p0.DP), .obj bp0_6 (.map 2 (BS (fun k : List UInt8 => .str k) (fun v : Int => .int .i32 v) p0.B6)), .AI rp0_7 9 (AI eS p0.Bs)] F := by
 refine Dr 83 [.tmp 6] hc ?_
 clear hc
 unfold DX at hm
 refine bg 83 [(0, .ptr (some (bp0, 0))), (1, .str p1), (2, Ab p2)] fun fr H => ?_
 refine AG 1 (Bc 1 [] 4 H fun fr H => ?_)
 obtain ⟨hb, hm⟩ := BE hm
 obtain ⟨h1, e1, A⟩ := A.pL 5 (AI eY (List.replicate (p1.length : Int).toNat (0 : UInt8)))
 refine Ap 2 [] 12 (AF (some h.size) (List.replicate (p1.length : Int).toNat (0 : UInt8)).length) h1 H (fun fr => .of (U6 (e := eY) HK (x := (0 : UInt8)) (by kernel_rfl) hb (congrArg some e1.symm))) fun fr t H => ?_
 refine AO 1 [(7, AF (some h.size) ((List.replicate (p1.length : Int).toNat (0 : UInt8)).length))] H fun fr H => AQ (AG 6 (Ag 3 [] 16 1 0 A H fun fr t H => ?_))
 refine AO 2 [(17, Ai (p0.l_.length : Int)), (18, Ai 0)] H fun fr H => AV (id := 0) (by kernel_rfl) ?_
 obtain ⟨o1, ho, hm⟩ := bind_some hm
 refine Ax (Q' := fun e fr' h' => (∃ x3, e = .exit 0 ∧ x3 = o1 ∧ ∃ (hl2 : x3.length = (List.replicate (p1.length : Int).toNat (0 : UInt8)).length), Has fr' 83 [(0, .ptr (some (bp0, 0))), (7, AF (some h.size) x3.length)] ∧ HH g h' [.AI (some h.size) 5 (AI eY x3), .obj bp0 (.cells none 2 [AF rp0_0 p0.l_.length, .bool p0.f_.Fold, .bool p0.f_.Aw, Ai p0.EW, .ptr (some (bp0_4, 0)), AF rp0_5 p0.DP.length, .map (some bp0_6), AF rp0_7 p0.Bs.length]), .AI rp0_0 264 (AI AM p0.l_), .obj bp0_4 (.cells none 2 (Cj 256 (AA.int .u8) p0.t_.BP ++ [Ai p0.t_.An, AF rp0_4_2 p0.t_.BO.length, AF rp0_4_3 p0.t_.A7.length])), .AI rp0_4_2 21 (AI (eI .i32) p0.t_.BO), .AI rp0_4_3 4 (AI eB p0.t_.A7), .AI rp0_5 5 (AI eY p0.DP), .obj bp0_6 (.map 2 (BS (fun k : List UInt8 => .str k) (fun v : Int => .int .i32 v) p0.B6)), .AI rp0_7 9 (AI eS p0.Bs)] F) ∨ False) ?_ ?_
 ·refine Bh (by kernel_rfl) (fun (s : (List UInt8) × Int) fr' h' => ∃ x1 x2, (x1, x2) = s ∧ ∃ (hl1 : x1.length = (List.replicate (p1.length : Int).toNat (0 : UInt8)).length), Has fr' 83 [(0, .ptr (some (bp0, 0))), (1, .str p1), (2, Ab p2), (7, AF (some h.size) x1.length), (16, AF rp0_0 p0.l_.length), (17, Ai (p0.l_.length : Int)), (18, Ai x2)] ∧ HH g h' [.AI (some h.size) 5 (AI eY x1), .obj bp0 (.cells none 2 [AF rp0_0 p0.l_.length, .bool p0.f_.Fold, .bool p0.f_.Aw, Ai p0.EW, .ptr (some (bp0_4, 0)), AF rp0_5 p0.DP.length, .map (some bp0_6), AF rp0_7 p0.Bs.length]), .AI rp0_0 264 (AI AM p0.l_), .obj bp0_4 (.cells none 2 (Cj 256 (AA.int .u8) p0.t_.BP ++ [Ai p0.t_.An, AF rp0_4_2 p0.t_.BO.length, AF rp0_4_3 p0.t_.A7.length])), .AI rp0_4_2 21 (AI (eI .i32) p0.t_.BO), .AI rp0_4_3 4 (AI eB p0.t_.A7), .AI rp0_5 5 (AI eY p0.DP), .obj bp0_6 (.map 2 (BS (fun k : List UInt8 => .str k) (fun v : Int => .int .i32 v) p0.B6)), .AI rp0_7 9 (AI eS p0.Bs)] F) ho ⟨_, _, rfl, rfl, H.ls, A⟩ ?_
  clear ho hm H A
  intro s q fr h2 hI hm
  obtain ⟨x1, x2, rfl, hl1, H, A⟩ := hI
  unfold EZ at hm
  refine AG 1 (AO 1 [(19, .bool (decide (x2 < (p0.l_.length : Int))))] H fun fr H => AQ (Ad 19 H hm (fun hb hm H => ?_) fun hb hm H => ?_))
  ·refine Bf id (AQ ?_)
   obtain ⟨o2, ho, hm⟩ := bind_some hm
   refine Ax (Q' := fun e fr' h' => (∃ x4, e = .normal ∧ x4 = o2 ∧ ∃ (hl3 : x4.length = (List.replicate (p1.length : Int).toNat (0 : UInt8)).length), Has fr' 83 [(0, .ptr (some (bp0, 0))), (1, .str p1), (2, Ab p2), (7, AF (some h.size) x4.length), (16, AF rp0_0 p0.l_.length), (17, Ai (p0.l_.length : Int)), (18, Ai x2)] ∧ HH g h' [.AI (some h.size) 5 (AI eY x4), .obj bp0 (.cells none 2 [AF rp0_0 p0.l_.length, .bool p0.f_.Fold, .bool p0.f_.Aw, Ai p0.EW, .ptr (some (bp0_4, 0)), AF rp0_5 p0.DP.length, .map (some bp0_6), AF rp0_7 p0.Bs.length]), .AI rp0_0 264 (AI AM p0.l_), .obj bp0_4 (.cells none 2 (Cj 256 (AA.int .u8) p0.t_.BP ++ [Ai p0.t_.An, AF rp0_4_2 p0.t_.BO.length, AF rp0_4_3 p0.t_.A7.length])), .AI rp0_4_2 21 (AI (eI .i32) p0.t_.BO), .AI rp0_4_3 4 (AI eB p0.t_.A7), .AI rp0_5 5 (AI eY p0.DP), .obj bp0_6 (.map 2 (BS (fun k : List UInt8 => .str k) (fun v : Int => .int .i32 v) p0.B6)), .AI rp0_7 9 (AI eS p0.Bs)] F) ∨ False) ?_ ?_
   ·replace hm := ho
    clear ho
    refine AV (id := 1) (by kernel_rfl) ?_
    refine AG 6 ?_
    obtain ⟨x5, hx, hm⟩ := bind_some hm
    obtain ⟨i1, er1, _, hx, hq1⟩ := HH.Kn Bk (by decide) A 2 (xs := p0.l_) rfl hx
    refine Ap 1 [(20, Ai x2)] 21 (.ptr (some (i1, x2.toNat * 6))) h2 H (fun fr => .of (Dc (s := Cs rp0_0 p0.l_.length) (by kernel_rfl) hx)) fun fr t H => ?_
    refine Aq 22 _ _ H (fun fr => .of (CG (by kernel_rfl) (KE Bk (HH.row A 2 rfl er1) hq1 0 6 (Nat.le_of_ble_eq_true rfl)))) fun fr t H => ?_
    obtain ⟨h3, e2, A⟩ := A.pu (.cells none 2 [Ai 0, Ab 0, Au 0, Au 0, Au 0, Au 0])
    refine BB 9 (.ptr (some (h2.size, 0))) e2 H fun fr t H => ?_
    obtain ⟨h4, hx, A⟩ := A.s0 0 (AM x5) [_, _, _, _, _, _]
    refine Fk 1 [(8, Ai x2)] hx H fun fr t H => ?_
    refine BJ id (AQ (AG 9 ?_))
    obtain ⟨x6, hx, hm⟩ := bind_some hm
    refine Ap 3 [] 26 (Ab x6) h4 H (fun fr => .of (JG (by kernel_rfl) hx)) fun fr t H => ?_
    refine AK 2 [(28, Ai (CM .i64 x2 (7 : Int)))] H fun fr H => ?_
    obtain ⟨hb, hm⟩ := BE hm
    refine Aq 29 (Ab (B3 .u8 x6 (CM .i64 x2 (7 : Int)))) h4 H (fun fr => .of (Tc (by kernel_rfl) hb)) fun fr t H => ?_
    refine AO 2 [(31, .bool ((CM .u8 (B3 .u8 x6 (CM .i64 x2 (7 : Int))) (1 : Int)) == 0))] H fun fr H => Ad 31 H hm (fun hb hm H => ?_) fun hb hm H => ?_
    ·refine BU (i := 1) (by kernel_rfl) ?_
     replace A := A.k9 1 2 3 4 5 6 7 8 9
     exact .inl ⟨_, rfl, AY hm, hl1, H.ls, A⟩
    refine Bf id (AV (id := 2) (by kernel_rfl) ?_)
    refine AG 15 (Ag 1 [] 34 0 0 A H fun fr t H => ?_)
    refine AK 2 [(36, .bool (x5.Kind == 4))] H fun fr H => A9 10 (fun fr' h' => h4 = h' ∧ Has fr' 83 [(0, .ptr (some (bp0, 0))), (1, .str p1), (2, Ab p2), (7, AF (some h.size) x1.length), (8, Ai x2), (9, .ptr (some (h2.size, 0))), (16, AF rp0_0 p0.l_.length), (17, Ai (p0.l_.length : Int)), (18, Ai x2), (46, .bool ((x5.Kind == 4) && (p0.f_.Aw || (p2 != 47))))]) ?_ ?_
    ·cases hb : (x5.Kind == 4 : Bool) with
     | true =>
      replace H := H.kn 36 hb
      refine Ag 4 [] 41 2 2 A H fun fr t H => ?_
      refine AK 1 [(42, .bool p0.f_.Aw)] H fun fr H => A9 3 (fun fr' h' => h4 = h' ∧ Has fr' 83 [(0, .ptr (some (bp0, 0))), (1, .str p1), (2, Ab p2), (7, AF (some h.size) x1.length), (8, Ai x2), (9, .ptr (some (h2.size, 0))), (16, AF rp0_0 p0.l_.length), (17, Ai (p0.l_.length : Int)), (18, Ai x2), (36, .bool true), (45, .bool (p0.f_.Aw || (p2 != 47)))]) ?_ ?_
      ·cases hb : (p0.f_.Aw : Bool) with
       | true =>
        replace H := H.kn 42 hb
        exact AK 3 [(45, .bool true)] H fun fr H => BH H hb
       | false =>
        replace H := H.kn 42 hb
        exact AK 3 [(45, .bool (p2 != 47))] H fun fr H => BH H hb
      intro t fr h' hK
      obtain ⟨e, H⟩ := hK
      subst e
      exact AK 1 [(46, .bool (p0.f_.Aw || (p2 != 47)))] H fun fr H => BH H hb
     | false =>
      replace H := H.kn 36 hb
      exact AK 10 [(46, .bool false)] H fun fr H => BH H hb
    intro t fr h' hK
    obtain ⟨e, H⟩ := hK
    subst e
    refine AO 1 [(32, .bool ((x5.Kind == 4) && (p0.f_.Aw || (p2 != 47))))] H fun fr H => Ad 32 H hm (fun hb hm H => ?_) fun hb hm H => ?_
    ·refine Ep 7 11 ?_
     obtain ⟨x7, hx, hm⟩ := bind_some hm
     obtain ⟨i2, er2, _, hx, hq2⟩ := HH.Kn HK (by decide) A 1 (xs := x1) rfl hx
     refine Ap 3 [(47, AF (some h.size) x1.length), (49, Ai (B3 .i64 x2 (3 : Int)))] 50 (.ptr (some (i2, (B3 .i64 x2 (3 : Int)).toNat * 1))) h4 H (fun fr => .of (Dc (s := Cs (some h.size) x1.length) (by kernel_rfl) hx)) fun fr t H => ?_
     refine Aq 51 _ _ H (fun fr => .of (Da (by kernel_rfl) (DD HK (HH.row A 1 rfl er2) hq2 (o := 0) rfl))) fun fr t H => ?_
     refine AK 2 [(53, Ai (CM .i64 x2 (7 : Int)))] H fun fr H => ?_
     obtain ⟨hb, hm⟩ := BE hm
     refine Aq 54 (Ab (Ki .u8 (1 : Int) (CM .i64 x2 (7 : Int)))) h4 H (fun fr => .of (VJ (by kernel_rfl) hb)) fun fr t H => ?_
     obtain ⟨x8, hx, hm⟩ := bind_some hm
     obtain ⟨i3, er3, _, hx, hq3⟩ := HH.Kn HK (by decide) A 1 (xs := x1) rfl hx
     refine Ap 1 [(55, Ab (Np .u8 (x7.toNat : Int) (Ki .u8 (1 : Int) (CM .i64 x2 (7 : Int)))))] 56 (.ptr (some (i3, (B3 .i64 x2 (3 : Int)).toNat * 1))) h4 H (fun fr => .of (Dc (s := Cs (some h.size) x1.length) (by kernel_rfl) hx)) fun fr t H => ?_
     obtain ⟨x9, hx, hm⟩ := bind_some hm
     have hx := PK hx
     rw [hx] at H
     obtain ⟨h5, hx, A1⟩ := HH.Xg HK A 1 rfl er3 hq3 (y := x9) (o := 0) (new := [Ab (x9.toNat : Int)]) rfl rfl (Nat.le_of_ble_eq_true rfl)
     have hl4 : (x1.set (B3 .i64 x2 (3 : Int)).toNat x9).length = (List.replicate (p1.length : Int).toNat (0 : UInt8)).length := List.length_set.trans hl1
     have el : AF (some h.size) x1.length = AF (some h.size) (x1.set (B3 .i64 x2 (3 : Int)).toNat x9).length := congrArg _ List.length_set.symm
     try rw [el] at H
     try rw [el] at A1
     replace A : HH g h5 [_, .AI (some h.size) 5 (AI eY (x1.set (B3 .i64 x2 (3 : Int)).toNat x9)), _, _, _, _, _, _, _, _] F := A1
     refine GK hx H fun fr t H => ?_
     refine at_nil ?_
     replace A := A.k9 1 2 3 4 5 6 7 8 9
     exact .inl ⟨_, rfl, AY hm, hl4, H.ls, A⟩
    refine AG 10 (Ag 1 [] 59 0 0 A H fun fr t H => ?_)
    refine AK 2 [(61, .bool (x5.Kind != 4))] H fun fr H => ?_
    obtain ⟨x10, ho, hm⟩ := bind_some hm
    refine A9 5 (fun fr' h' => Has fr' 83 [(0, .ptr (some (bp0, 0))), (1, .str p1), (2, Ab p2), (7, AF (some h.size) x1.length), (8, Ai x2), (16, AF rp0_0 p0.l_.length), (17, Ai (p0.l_.length : Int)), (18, Ai x2), (66, .bool x10)] ∧ HH g h' [.obj h2.size (.cells none 2 (AM x5)), .AI (some h.size) 5 (AI eY x1), .obj bp0 (.cells none 2 [AF rp0_0 p0.l_.length, .bool p0.f_.Fold, .bool p0.f_.Aw, Ai p0.EW, .ptr (some (bp0_4, 0)), AF rp0_5 p0.DP.length, .map (some bp0_6), AF rp0_7 p0.Bs.length]), .AI rp0_0 264 (AI AM p0.l_), .obj bp0_4 (.cells none 2 (Cj 256 (AA.int .u8) p0.t_.BP ++ [Ai p0.t_.An, AF rp0_4_2 p0.t_.BO.length, AF rp0_4_3 p0.t_.A7.length])), .AI rp0_4_2 21 (AI (eI .i32) p0.t_.BO), .AI rp0_4_3 4 (AI eB p0.t_.A7), .AI rp0_5 5 (AI eY p0.DP), .obj bp0_6 (.map 2 (BS (fun k : List UInt8 => .str k) (fun v : Int => .int .i32 v) p0.B6)), .AI rp0_7 9 (AI eS p0.Bs)] F) ?_ ?_
    ·rcases AX ho with ⟨hb, hm⟩ | ⟨hb, hm⟩
     ·replace H := H.kn 61 hb
      refine Ap 1 [(62, .ptr (some (bp0, 0)))] 63 _ _ H (fun fr => .of (CG (by kernel_rfl) (A.HG 0 rfl (o := 0) (n := 6) ⟨Nat.le_of_ble_eq_true rfl, rfl⟩))) fun fr t H => ?_
      replace A : HH g h4 [_, _, _, _, _, _, _, _, _, _] F := ((((((((A.front 9 rfl).front 9 rfl).front 9 rfl).front 9 rfl).front 9 rfl).front 9 rfl).front 9 rfl).front 9 rfl)
      obtain ⟨x11, hx, hm⟩ := bind_some hm
      obtain ⟨v1, h7, hr, rfl, A1⟩ := E5 (av := [.ptr (some (bp0, 0)), .agg (AM x5), Ab p2]) hx (A.cut 8)
      replace A : HH g h7 [.obj bp0 (.cells none 2 [_, _, _, _, _, _, _, _]), .AI rp0_0 264 (AI AM p0.l_), .obj bp0_4 (.cells none 2 (Cj 256 (AA.int .u8) p0.t_.BP ++ [Ai p0.t_.An, AF rp0_4_2 p0.t_.BO.length, AF rp0_4_3 p0.t_.A7.length])), .AI rp0_4_2 21 (AI (eI .i32) p0.t_.BO), .AI rp0_4_3 4 (AI eB p0.t_.A7), .AI rp0_5 5 (AI eY p0.DP), .obj bp0_6 (.map 2 (BS (fun k : List UInt8 => .str k) (fun v : Int => .int .i32 v) p0.B6)), .AI rp0_7 9 (AI eS p0.Bs), _, _] F := A.CY (n := 8) A1
      refine A0 1 [] 65 hr H fun fr t H => ?_
      refine AK 1 [(66, .bool x11)] H fun fr H => ?_
      obtain rfl := AY hm
      replace A : HH g h7 [_, _, _, _, _, _, _, _, _, _] F := ((((((((((A.front 7 rfl).front 7 rfl).front 7 rfl).front 7 rfl).front 7 rfl).front 7 rfl).front 7 rfl).front 7 rfl).front 9 rfl).front 9 rfl)
      exact at_nil ⟨H.ls, A⟩
     replace H := H.kn 61 hb
     refine AK 5 [(66, .bool false)] H fun fr H => ?_
     obtain rfl := AY hm
     exact at_nil ⟨H.ls, A⟩
    clear A
    intro t fr h6 hK
    obtain ⟨H, A⟩ := hK
    refine AO 1 [(57, .bool x10)] H fun fr H => Ad 57 H hm (fun hb hm H => ?_) fun hb hm H => ?_
    ·refine Ep 9 13 ?_
     obtain ⟨x12, hx, hm⟩ := bind_some hm
     obtain ⟨i4, er4, _, hx, hq4⟩ := HH.Kn HK (by decide) A 1 (xs := x1) rfl hx
     refine Ap 4 [(67, AF (some h.size) x1.length), (70, Ai (B3 .i64 (IntKind.i64.wrap (x2 + 1)) (3 : Int)))] 71 (.ptr (some (i4, (B3 .i64 (IntKind.i64.wrap (x2 + 1)) (3 : Int)).toNat * 1))) h6 H (fun fr => .of (Dc (s := Cs (some h.size) x1.length) (by kernel_rfl) hx)) fun fr t H => ?_
     refine Aq 72 _ _ H (fun fr => .of (Da (by kernel_rfl) (DD HK (HH.row A 1 rfl er4) hq4 (o := 0) rfl))) fun fr t H => ?_
     refine AK 3 [(75, Ai (CM .i64 (IntKind.i64.wrap (x2 + 1)) (7 : Int)))] H fun fr H => ?_
     obtain ⟨hb, hm⟩ := BE hm
     refine Aq 76 (Ab (Ki .u8 (1 : Int) (CM .i64 (IntKind.i64.wrap (x2 + 1)) (7 : Int)))) h6 H (fun fr => .of (VJ (by kernel_rfl) hb)) fun fr t H => ?_
     obtain ⟨x13, hx, hm⟩ := bind_some hm
     obtain ⟨i5, er5, _, hx, hq5⟩ := HH.Kn HK (by decide) A 1 (xs := x1) rfl hx
     refine Ap 1 [(77, Ab (Np .u8 (x12.toNat : Int) (Ki .u8 (1 : Int) (CM .i64 (IntKind.i64.wrap (x2 + 1)) (7 : Int)))))] 78 (.ptr (some (i5, (B3 .i64 (IntKind.i64.wrap (x2 + 1)) (3 : Int)).toNat * 1))) h6 H (fun fr => .of (Dc (s := Cs (some h.size) x1.length) (by kernel_rfl) hx)) fun fr t H => ?_
     obtain ⟨x14, hx, hm⟩ := bind_some hm
     have hx := PK hx
     rw [hx] at H
     obtain ⟨h8, hx, A1⟩ := HH.Xg HK A 1 rfl er5 hq5 (y := x14) (o := 0) (new := [Ab (x14.toNat : Int)]) rfl rfl (Nat.le_of_ble_eq_true rfl)
     have hl5 : (x1.set (B3 .i64 (IntKind.i64.wrap (x2 + 1)) (3 : Int)).toNat x14).length = (List.replicate (p1.length : Int).toNat (0 : UInt8)).length := List.length_set.trans hl1
     have el : AF (some h.size) x1.length = AF (some h.size) (x1.set (B3 .i64 (IntKind.i64.wrap (x2 + 1)) (3 : Int)).toNat x14).length := congrArg _ List.length_set.symm
     try rw [el] at H
     try rw [el] at A1
     replace A : HH g h8 [_, .AI (some h.size) 5 (AI eY (x1.set (B3 .i64 (IntKind.i64.wrap (x2 + 1)) (3 : Int)).toNat x14)), _, _, _, _, _, _, _, _] F := A1
     refine GK hx H fun fr t H => ?_
     refine at_nil ?_
     replace A := A.k9 1 2 3 4 5 6 7 8 9
     exact .inl ⟨_, rfl, AY hm, hl5, H.ls, A⟩
    refine FL ?_
    replace A := A.k9 1 2 3 4 5 6 7 8 9
    exact .inl ⟨_, rfl, AY hm, hl1, H.ls, A⟩
   clear ho
   clear A
   intro e fr h9 hQ
   rcases hQ with ⟨x4, rfl, rfl, hl3, H, A⟩ | hF
   ·show AW _ _ _ _ _ _ _
    refine Cy 2 (BV 2 [(0, .ptr (some (bp0, 0))), (1, .str p1), (2, Ab p2), (7, AF (some h.size) x4.length), (16, AF rp0_0 p0.l_.length), (17, Ai (p0.l_.length : Int)), (18, Ai (IntKind.i64.wrap (x2 + 1)))] H fun fr H => at_nil ?_)
    exact nx hm ⟨_, _, rfl, hl3, H.ls, A⟩
   exact hF.elim
  refine BU (i := 0) (by kernel_rfl) ?_
  exact nr hm fun e => .inl ⟨_, rfl, e, hl1, H.ls, A⟩
 clear ho
 clear A
 intro e fr h10 hQ
 rcases hQ with ⟨x3, rfl, rfl, hl2, H, A⟩ | hF
 ·show AW _ _ _ _ _ _ _
  refine AG 4 ?_
  replace A := A.k9 1 2 3 4 5 6 7 8 0
  obtain ⟨⟨x15, x16⟩, hx, hm⟩ := bind_some hm
  obtain ⟨v1, h11, hr, hl6, rfl, A1⟩ := Es (av := [.ptr (some (bp0, 0)), AF (some h.size) x3.length]) hx (A.cut 9)
  have hl7 : x16.length = (List.replicate (p1.length : Int).toNat (0 : UInt8)).length := hl6.trans hl2
  have el : AF (some h.size) x3.length = AF (some h.size) x16.length := congrArg _ hl6.symm
  try rw [el] at H
  try rw [el] at hr
  try rw [el] at A1
  replace A : HH g h11 [.obj bp0 (.cells none 2 [_, _, _, _, _, _, _, _]), .AI rp0_0 264 (AI AM p0.l_), .obj bp0_4 (.cells none 2 (Cj 256 (AA.int .u8) p0.t_.BP ++ [Ai p0.t_.An, AF rp0_4_2 p0.t_.BO.length, AF rp0_4_3 p0.t_.A7.length])), .AI rp0_4_2 21 (AI (eI .i32) p0.t_.BO), .AI rp0_4_3 4 (AI eB p0.t_.A7), .AI rp0_5 5 (AI eY p0.DP), .obj bp0_6 (.map 2 (BS (fun k : List UInt8 => .str k) (fun v : Int => .int .i32 v) p0.B6)), .AI rp0_7 9 (AI eS p0.Bs), .AI (some h.size) 5 (AI eY x16)] F := A.CY (n := 9) A1
  refine A0 2 [] 82 hr H fun fr t H => ?_
  refine AO 1 [(6, .str x15)] H fun fr H => AU ?_
  obtain rfl := AY hm
  refine ⟨.inl rfl, .str x15, rH H, ?_⟩
  replace A := A.d8
  exact ⟨rfl, A⟩
 exact hF.elim
def GR (p0 : List AP) (p1 : EA) (p2 : Int) (x1 : Ba) (x2 : List UInt8) (x15 : Int) (s : (List Int) × (List Bool) × (List ((List UInt8) × Int)) × (List (List UInt8)) × Int) : Option (((List Int) × (List Bool) × (List ((List UInt8) × Int)) × (List (List UInt8)) × Int) ⊕ (((List Int) × (List Bool) × (List ((List UInt8) × Int)) × (List (List UInt8))) ⊕ ((List Int) × (List Bool) × (List ((List UInt8) × Int)) × (List (List UInt8)) × Int))) :=
 match s with
 | (x25, x26, x27, x28, x29) => Aa (decide (x29 < (x2.length : Int))) ((Fc x2 x29).bind fun x39 => (Fc x28 x15).bind fun x40 => (DX (⟨p0, p1, p2, (⟨x1.BP, x1.An, x25, x26⟩ : Ba), x2, x27, x28⟩ : Bx) x40 (x39.toNat : Int)).bind fun x41 => (Ca (⟨p0, p1, p2, (⟨x1.BP, x1.An, x25, x26⟩ : Ba), x2, x27, x28⟩ : Bx) x41).bind fun (x42, x43, x44, x45, x46) => Aa (!x43) (some (.inr (.inr (x25, x44, x45, x46, (7 : Int))))) (Em (Nd 4 (x25.length + ([x42] : List Int).length)) <| some (.inl ((x25 ++ ([x42] : List Int)), x44, x45, x46, IntKind.i64.wrap (x29 + 1))))) (some (.inr (.inl (x25, x26, x27, x28))))
def GX (p0 : List AP) (p1 : EA) (p2 : Int) (x1 : Ba) (x2 : List UInt8) (s : (List Int) × (List Bool) × (List ((List UInt8) × Int)) × (List (List UInt8)) × Int) : Option (((List Int) × (List Bool) × (List ((List UInt8) × Int)) × (List (List UInt8)) × Int) ⊕ (((List Int) × (List Bool) × (List ((List UInt8) × Int)) × (List (List UInt8))) ⊕ ((List Int) × (List Bool) × (List ((List UInt8) × Int)) × (List (List UInt8)) × Int))) :=
 match s with
 | (x11, x12, x13, x14, x15) => Aa (decide (x15 < (x14.length : Int))) ((loop (GR p0 p1 p2 x1 x2 x15) (x11, x12, x13, x14, (0 : Int))).bind fun o2 => (match o2 with | .inl (x30, x31, x32, x33) => some (.inl (x30, x31, x32, x33, IntKind.i64.wrap (x15 + 1))) | .inr (x34, x35, x36, x37, x38) => some (.inr (.inr (x34, x35, x36, x37, x38))))) (some (.inr (.inl (x11, x12, x13, x14))))
def Ff (p0 : List AP) (p1 : EA) (p2 : Int) : Option ((Option Ba) × Int) :=
 Aa ((decide (p2 < 1)) || (decide (p2 > 4096))) (some (none, (6 : Int))) (Aa (decide ((p0.length : Int) > 1024)) (some (none, (8 : Int))) ((Dj (⟨p0, p1, p2, (⟨R0, (0 : Int), ([] : List Int), ([] : List Bool)⟩ : Ba), ([] : List UInt8), ([] : List ((List UInt8) × Int)), ([] : List (List UInt8))⟩ : Bx)).bind fun (x1, x2) => Em (Ya 1 (IntKind.i64.wrap ((B3 .i64 (p0.length : Int) (3 : Int)) + 1))) <| (Fc (List.replicate (IntKind.i64.wrap ((B3 .i64 (p0.length : Int) (3 : Int)) + 1)).toNat (0 : UInt8)) (0 : Int)).bind fun x3 => (Cd (⟨p0, p1, p2, (⟨x1.BP, x1.An, ([] : List Int), ([] : List Bool)⟩ : Ba), x2, ([] : List ((List UInt8) × Int)), ([] : List (List UInt8))⟩ : Bx) ((List.replicate (IntKind.i64.wrap ((B3 .i64 (p0.length : Int) (3 : Int)) + 1)).toNat (0 : UInt8)).set (0 : Int).toNat (1 : UInt8))).bind fun (x4, x5) => (Ca (⟨p0, p1, p2, (⟨x1.BP, x1.An, ([] : List Int), ([] : List Bool)⟩ : Ba), x2, ([] : List ((List UInt8) × Int)), ([] : List (List UInt8))⟩ : Bx) x4).bind fun (x6, x7, x8, x9, x10) => (loop (GX p0 p1 p2 x1 x2) (([] : List Int), x8, x9, x10, (0 : Int))).bind fun o1 => (match o1 with | .inl (x16, x17, x18, x19) => some (some (⟨x1.BP, x1.An, x16, x17⟩ : Ba), (0 : Int)) | .inr (x20, x21, x22, x23, x24) => some (none, x24))))
theorem KD {p0 p1 p2 rp0 o0 q1} (hm : Ff p0 p1 p2 = some (o0, q1)) (A : HH g h [.AI rp0 264 (AI AM p0)] F) (hc : BF (cfg.still 130) av = [AF rp0 p0.length, .agg [.bool p1.Fold, .bool p1.Aw], Ai p2] := by kernel_rfl) : ∃ v h', BL cfg g h 130 av v h' ∧ ((∃ (q0 : Ba), o0 = some q0 ∧ v = .tuple [.A8 (Cj 256 (AA.int .u8) q0.BP ++ [Ai q0.An, vs (eI .i32) q0.BO, vs eB q0.A7]), Ai q1] ∧ HH g h' [.AI rp0 264 (AI AM p0)] F) ∨ (o0 = none ∧ v = .tuple [.ptr none, Ai q1] ∧ HH g h' [.AI rp0 264 (AI AM p0)] F)) := by
 refine Y3 104 [.tmp 6, .tmp 7] hc ?_
 clear hc
 unfold Ff at hm
 refine bg 104 [(0, AF rp0 p0.length), (1, .agg [.bool p1.Fold, .bool p1.Aw]), (2, Ai p2)] fun fr H => ?_
 refine AG 3 ?_
 obtain ⟨h1, e1, A⟩ := A.pu (.cells none 2 [.bool p1.Fold, .bool p1.Aw])
 refine BB 4 (.ptr (some (h.size, 0))) e1 H fun fr t H => ?_
 refine AO 2 [] H fun fr H => AQ (AV (id := 0) (by kernel_rfl) ?_)
 refine AG 7 (AK 3 [(18, .bool (decide (p2 < 1)))] H fun fr H => A9 3 (fun fr' h' => h1 = h' ∧ Has fr' 104 [(0, AF rp0 p0.length), (2, Ai p2), (4, .ptr (some (h.size, 0))), (21, .bool ((decide (p2 < 1)) || (decide (p2 > 4096))))]) ?_ ?_)
 ·cases hb : (decide (p2 < 1) : Bool) with
  | true =>
   replace H := H.kn 18 hb
   exact AK 3 [(21, .bool true)] H fun fr H => BH H hb
  | false =>
   replace H := H.kn 18 hb
   exact AK 3 [(21, .bool (decide (p2 > 4096)))] H fun fr H => BH H hb
 intro t fr h' hK
 obtain ⟨e, H⟩ := hK
 subst e
 refine AO 1 [(15, .bool ((decide (p2 < 1)) || (decide (p2 > 4096))))] H fun fr H => Ad 15 H hm (fun hb hm H => ?_) fun hb hm H => ?_
 ·refine AG 2 (AO 2 [(6, .ptr none), (7, Ai 6)] H fun fr H => AU ?_)
  obtain ⟨rfl, rfl⟩ := Cw hm
  refine ⟨.inl rfl, .tuple [.ptr none, Ai 6], rH H, ?_⟩
  replace A := A.k1 1
  refine ⟨.tuple [.ptr none, Ai 6], h1, by first | rfl | (simp only [PV, Pu, PW, Pz, Pq, Py, Pj, Ph, Ps, Pv, Pw, P2, Pr, GQ, GW, GJ, GP, GL, GY, GN, Option.map_some] <;> rfl), ?_⟩
  exact .inr ⟨rfl, rfl, A⟩
 refine AG 4 (AO 4 [(22, .bool (decide ((p0.length : Int) > 1024)))] H fun fr H => Ad 22 H hm (fun hb hm H => ?_) fun hb hm H => ?_)
 ·refine AG 2 (AO 2 [(6, .ptr none), (7, Ai 8)] H fun fr H => AU ?_)
  obtain ⟨rfl, rfl⟩ := Cw hm
  refine ⟨.inl rfl, .tuple [.ptr none, Ai 8], rH H, ?_⟩
  replace A := A.k1 1
  refine ⟨.tuple [.ptr none, Ai 8], h1, by first | rfl | (simp only [PV, Pu, PW, Pz, Pq, Py, Pj, Ph, Ps, Pv, Pw, P2, Pr, GQ, GW, GJ, GP, GL, GY, GN, Option.map_some] <;> rfl), ?_⟩
  exact .inr ⟨rfl, rfl, A⟩
 refine Ce 9 id (Ap 1 [(26, AF rp0 p0.length)] 27 _ _ H (fun fr => .of (CG (by kernel_rfl) (A.HG 0 rfl (o := 0) (n := 2) ⟨Nat.le_of_ble_eq_true rfl, rfl⟩))) fun fr t H => ?_)
 obtain ⟨h2, e2, A⟩ := A.pu (.cells none 2 (Cj 256 (AA.int .u8) R0 ++ [Ai 0, .slice none 0, .slice none 0]))
 refine KB 2 [(28, Ai p2)] 30 (.ptr (some (h1.size, 0))) e2 H fun fr t H => ?_
 obtain ⟨h3, e3⟩ : ∃ x, x = h2.push (.map 2 []) := ⟨_, rfl⟩
 replace A : HH g h3 [.obj h2.size (.map 2 (BS (fun k : List UInt8 => .str k) (fun v : Int => .int .i32 v) ([] : List ((List UInt8) × Int)))), .obj h1.size (.cells none 2 (Cj 256 (AA.int .u8) R0 ++ [Ai 0, .slice none 0, .slice none 0])), .obj h.size (.cells none 2 [.bool p1.Fold, .bool p1.Aw]), _] F := (A.push _).to e3
 refine BB 31 (.map (some h2.size)) e3 H fun fr t H => ?_
 obtain ⟨h4, e4, A⟩ := A.pu (.cells none 2 [AF rp0 p0.length, .bool p1.Fold, .bool p1.Aw, Ai p2, .ptr (some (h1.size, 0)), .slice none 0, .map (some h2.size), .slice none 0])
 refine KB 1 [] 33 (.ptr (some (h3.size, 0))) e4 H fun fr t H => ?_
 refine Bc 1 [(8, .ptr (some (h3.size, 0)))] 2 H fun fr H => ?_
 replace A : HH g h4 [.AI none 21 (AI (eI .i32) ([] : List Int)), .obj h3.size (.cells none 2 [AF rp0 p0.length, .bool p1.Fold, .bool p1.Aw, Ai p2, .ptr (some (h1.size, 0)), .slice none 0, .map (some h2.size), .slice none 0]), _, .obj h1.size (.cells none 2 (Cj 256 (AA.int .u8) R0 ++ [Ai 0, AF none (([] : List Int).length), .slice none 0])), _, _] F := A.Kk 21
 replace A : HH g h4 [.AI none 4 (AI eB ([] : List Bool)), _, _, _, .obj h1.size (.cells none 2 (Cj 256 (AA.int .u8) R0 ++ [Ai 0, AF none (([] : List Int).length), AF none (([] : List Bool).length)])), _, _] F := A.Kk 4
 replace A : HH g h4 [.AI none 5 (AI eY ([] : List UInt8)), _, _, .obj h3.size (.cells none 2 [_, _, _, _, _, AF none (([] : List UInt8).length), _, _]), _, _, _, _] F := A.Kk 5
 replace A : HH g h4 [.AI none 9 (AI eS ([] : List (List UInt8))), _, _, _, .obj h3.size (.cells none 2 [_, _, _, _, _, _, _, AF none (([] : List (List UInt8)).length)]), _, _, _, _] F := A.Kk 9
 replace A := A.k9 4 8 6 3 2 1 5 0 7
 obtain ⟨⟨x1, x2⟩, hx, hm⟩ := bind_some hm
 obtain ⟨v1, h5, hr, r1, rfl, A1⟩ := HV (av := [.ptr (some (h3.size, 0))]) hx (A.cut 8)
 replace A : HH g h5 [.obj h3.size (.cells none 2 [_, _, _, _, _, AF r1 x2.length, _, _]), .AI rp0 264 (AI AM p0), .obj h1.size (.cells none 2 (Cj 256 (AA.int .u8) x1.BP ++ [Ai x1.An, AF none (([] : List Int).length), AF none (([] : List Bool).length)])), .AI none 21 (AI (eI .i32) ([] : List Int)), .AI none 4 (AI eB ([] : List Bool)), .AI r1 5 (AI eY x2), .obj h2.size (.map 2 (BS (fun k : List UInt8 => .str k) (fun v : Int => .int .i32 v) ([] : List ((List UInt8) × Int)))), .AI none 9 (AI eS ([] : List (List UInt8))), _] F := A.CY (n := 8) A1
 refine Qk 1 [] hr H fun fr t H => ?_
 refine CX 6 id ?_
 obtain ⟨hb, hm⟩ := BE hm
 obtain ⟨h6, e5, A⟩ := A.pL 5 (AI eY (List.replicate (IntKind.i64.wrap ((B3 .i64 (p0.length : Int) (3 : Int)) + 1)).toNat (0 : UInt8)))
 refine Ap 4 [] 40 (AF (some h5.size) (List.replicate (IntKind.i64.wrap ((B3 .i64 (p0.length : Int) (3 : Int)) + 1)).toNat (0 : UInt8)).length) h6 H (fun fr => .of (U6 (e := eY) HK (x := (0 : UInt8)) (by kernel_rfl) hb (congrArg some e5.symm))) fun fr t H => ?_
 refine Bc 1 [(9, AF (some h5.size) ((List.replicate (IntKind.i64.wrap ((B3 .i64 (p0.length : Int) (3 : Int)) + 1)).toNat (0 : UInt8)).length))] 3 H fun fr H => ?_
 obtain ⟨x3, hx, hm⟩ := bind_some hm
 obtain ⟨i1, er1, _, hx, hq1⟩ := HH.Kn HK (by decide) A 0 (xs := (List.replicate (IntKind.i64.wrap ((B3 .i64 (p0.length : Int) (3 : Int)) + 1)).toNat (0 : UInt8))) rfl hx
 refine Ap 1 [] 42 (.ptr (some (i1, (0 : Int).toNat * 1))) h6 H (fun fr => .of (Dc (s := Cs (some h5.size) ((List.replicate (IntKind.i64.wrap ((B3 .i64 (p0.length : Int) (3 : Int)) + 1)).toNat (0 : UInt8)).length)) (by kernel_rfl) hx)) fun fr t H => ?_
 obtain ⟨h7, hx, A1⟩ := HH.Xg HK A 0 rfl er1 hq1 (y := (1 : UInt8)) (o := 0) (new := [Ab 1]) rfl rfl (Nat.le_of_ble_eq_true rfl)
 have hl1 : ((List.replicate (IntKind.i64.wrap ((B3 .i64 (p0.length : Int) (3 : Int)) + 1)).toNat (0 : UInt8)).set (0 : Int).toNat (1 : UInt8)).length = (List.replicate (IntKind.i64.wrap ((B3 .i64 (p0.length : Int) (3 : Int)) + 1)).toNat (0 : UInt8)).length := List.length_set
 have el : AF (some h5.size) (List.replicate (IntKind.i64.wrap ((B3 .i64 (p0.length : Int) (3 : Int)) + 1)).toNat (0 : UInt8)).length = AF (some h5.size) ((List.replicate (IntKind.i64.wrap ((B3 .i64 (p0.length : Int) (3 : Int)) + 1)).toNat (0 : UInt8)).set (0 : Int).toNat (1 : UInt8)).length := congrArg _ List.length_set.symm
 try rw [el] at H
 try rw [el] at A1
 replace A : HH g h7 [.AI (some h5.size) 5 (AI eY ((List.replicate (IntKind.i64.wrap ((B3 .i64 (p0.length : Int) (3 : Int)) + 1)).toNat (0 : UInt8)).set (0 : Int).toNat (1 : UInt8))), _, _, _, _, _, _, _, _, _] F := A1
 refine GK hx H fun fr t H => ?_
 refine CX 5 id ?_
 replace A : HH g h7 [_, _, _, _, _, _, _, _, _, _] F := (((((((((A.front 0 rfl).front 8 rfl).front 8 rfl).front 8 rfl).front 8 rfl).front 8 rfl).front 8 rfl).front 8 rfl).front 8 rfl)
 obtain ⟨⟨x4, x5⟩, hx, hm⟩ := bind_some hm
 obtain ⟨v1, h8, hr, hl2, rfl, A1⟩ := Es (av := [.ptr (some (h3.size, 0)), AF (some h5.size) (((List.replicate (IntKind.i64.wrap ((B3 .i64 (p0.length : Int) (3 : Int)) + 1)).toNat (0 : UInt8)).set (0 : Int).toNat (1 : UInt8)).length)]) hx (A.cut 9)
 have hl3 : x5.length = (List.replicate (IntKind.i64.wrap ((B3 .i64 (p0.length : Int) (3 : Int)) + 1)).toNat (0 : UInt8)).length := hl2.trans hl1
 have el : AF (some h5.size) ((List.replicate (IntKind.i64.wrap ((B3 .i64 (p0.length : Int) (3 : Int)) + 1)).toNat (0 : UInt8)).set (0 : Int).toNat (1 : UInt8)).length = AF (some h5.size) x5.length := congrArg _ hl2.symm
 try rw [el] at H
 try rw [el] at hr
 try rw [el] at A1
 replace A : HH g h8 [.obj h3.size (.cells none 2 [_, _, _, _, _, _, _, _]), .AI rp0 264 (AI AM p0), .obj h1.size (.cells none 2 (Cj 256 (AA.int .u8) x1.BP ++ [Ai x1.An, AF none (([] : List Int).length), AF none (([] : List Bool).length)])), .AI none 21 (AI (eI .i32) ([] : List Int)), .AI none 4 (AI eB ([] : List Bool)), .AI r1 5 (AI eY x2), .obj h2.size (.map 2 (BS (fun k : List UInt8 => .str k) (fun v : Int => .int .i32 v) ([] : List ((List UInt8) × Int)))), .AI none 9 (AI eS ([] : List (List UInt8))), .AI (some h5.size) 5 (AI eY x5), _] F := A.CY (n := 9) A1
 refine A0 3 [(43, .ptr (some (h3.size, 0)))] 46 hr H fun fr t H => ?_
 obtain ⟨⟨x6, x7, x8, x9, x10⟩, hx, hm⟩ := bind_some hm
 obtain ⟨v1, h9, hr, r2, r3, rfl, A1⟩ := Eo (av := [.ptr (some (h3.size, 0)), .str x4]) hx (A.cut 8)
 replace A : HH g h9 [.obj h3.size (.cells none 2 [_, _, _, _, _, _, _, AF r3 x10.length]), .AI rp0 264 (AI AM p0), .obj h1.size (.cells none 2 (Cj 256 (AA.int .u8) x1.BP ++ [Ai x1.An, AF none (([] : List Int).length), AF r2 x8.length])), .AI none 21 (AI (eI .i32) ([] : List Int)), .AI r2 4 (AI eB x8), .AI r1 5 (AI eY x2), .obj h2.size (.map 2 (BS (fun k : List UInt8 => .str k) (fun v : Int => .int .i32 v) x9)), .AI r3 9 (AI eS x10), _, _] F := A.CY (n := 8) A1
 refine Ue hr H fun fr t H => ?_
 refine BJ id (AQ (AG 1 (AO 1 [(10, Ai 0)] H fun fr H => AV (id := 1) (by kernel_rfl) ?_)))
 replace A := A.k9 0 1 2 3 4 5 6 7 9
 obtain ⟨o1, ho, hm⟩ := bind_some hm
 refine Ax (Q' := fun e fr' h' => (∃ x16 x17 x18 x19, e = .exit 1 ∧ .inl (x16, x17, x18, x19) = o1 ∧ ∃ r7 r8 r9, Has fr' 104 [(8, .ptr (some (h3.size, 0)))] ∧ HH g h' [.obj h3.size (.cells none 2 [AF rp0 p0.length, .bool p1.Fold, .bool p1.Aw, Ai p2, .ptr (some (h1.size, 0)), AF r1 x2.length, .map (some h2.size), AF r9 x19.length]), .AI rp0 264 (AI AM p0), .obj h1.size (.cells none 2 (Cj 256 (AA.int .u8) x1.BP ++ [Ai x1.An, AF r7 x16.length, AF r8 x17.length])), .AI r7 21 (AI (eI .i32) x16), .AI r8 4 (AI eB x17), .AI r1 5 (AI eY x2), .obj h2.size (.map 2 (BS (fun k : List UInt8 => .str k) (fun v : Int => .int .i32 v) x18)), .AI r9 9 (AI eS x19), .obj h.size (.cells none 2 [.bool p1.Fold, .bool p1.Aw])] F) ∨ (∃ x20 x21 x22 x23 x24, e = .ret ∧ .inr (x20, x21, x22, x23, x24) = o1 ∧ ∃ r10 r11 r12, Has fr' 104 [(6, .ptr none), (7, Ai x24)] ∧ HH g h' [.obj h3.size (.cells none 2 [AF rp0 p0.length, .bool p1.Fold, .bool p1.Aw, Ai p2, .ptr (some (h1.size, 0)), AF r1 x2.length, .map (some h2.size), AF r12 x23.length]), .AI rp0 264 (AI AM p0), .obj h1.size (.cells none 2 (Cj 256 (AA.int .u8) x1.BP ++ [Ai x1.An, AF r10 x20.length, AF r11 x21.length])), .AI r10 21 (AI (eI .i32) x20), .AI r11 4 (AI eB x21), .AI r1 5 (AI eY x2), .obj h2.size (.map 2 (BS (fun k : List UInt8 => .str k) (fun v : Int => .int .i32 v) x22)), .AI r12 9 (AI eS x23), .obj h.size (.cells none 2 [.bool p1.Fold, .bool p1.Aw])] F) ∨ False) ?_ ?_
 ·refine Bh (by kernel_rfl) (fun (s : (List Int) × (List Bool) × (List ((List UInt8) × Int)) × (List (List UInt8)) × Int) fr' h' => ∃ x11 x12 x13 x14 x15, (x11, x12, x13, x14, x15) = s ∧ ∃ r4 r5 r6, Has fr' 104 [(8, .ptr (some (h3.size, 0))), (10, Ai x15)] ∧ HH g h' [.obj h3.size (.cells none 2 [AF rp0 p0.length, .bool p1.Fold, .bool p1.Aw, Ai p2, .ptr (some (h1.size, 0)), AF r1 x2.length, .map (some h2.size), AF r6 x14.length]), .AI rp0 264 (AI AM p0), .obj h1.size (.cells none 2 (Cj 256 (AA.int .u8) x1.BP ++ [Ai x1.An, AF r4 x11.length, AF r5 x12.length])), .AI r4 21 (AI (eI .i32) x11), .AI r5 4 (AI eB x12), .AI r1 5 (AI eY x2), .obj h2.size (.map 2 (BS (fun k : List UInt8 => .str k) (fun v : Int => .int .i32 v) x13)), .AI r6 9 (AI eS x14), .obj h.size (.cells none 2 [.bool p1.Fold, .bool p1.Aw])] F) ho ⟨_, _, _, _, _, rfl, none, _, _, H.ls, A⟩ ?_
  clear ho hm H A
  intro s q fr h10 hI hm
  obtain ⟨x11, x12, x13, x14, x15, rfl, r4, r5, r6, H, A⟩ := hI
  unfold GX at hm
  refine AQ (AG 7 (Ag 4 [(48, Ai x15)] 52 0 7 A H fun fr t H => ?_))
  refine AO 2 [(54, .bool (decide (x15 < (x14.length : Int))))] H fun fr H => Ad 54 H hm (fun hb hm H => ?_) fun hb hm H => ?_
  ·refine Bf id (AQ (AV (id := 2) (by kernel_rfl) ?_))
   refine AG 6 (Ag 3 [] 60 0 5 A H fun fr t H => ?_)
   refine AO 2 [(61, Ai (x2.length : Int)), (62, Ai 0)] H fun fr H => AV (id := 3) (by kernel_rfl) ?_
   obtain ⟨o2, ho, hm⟩ := bind_some hm
   refine Ax (Q' := fun e fr' h' => (∃ x30 x31 x32 x33, e = .exit 3 ∧ .inl (x30, x31, x32, x33) = o2 ∧ ∃ r16 r17 r18, Has fr' 104 [(8, .ptr (some (h3.size, 0))), (10, Ai x15)] ∧ HH g h' [.obj h3.size (.cells none 2 [AF rp0 p0.length, .bool p1.Fold, .bool p1.Aw, Ai p2, .ptr (some (h1.size, 0)), AF r1 x2.length, .map (some h2.size), AF r18 x33.length]), .AI rp0 264 (AI AM p0), .obj h1.size (.cells none 2 (Cj 256 (AA.int .u8) x1.BP ++ [Ai x1.An, AF r16 x30.length, AF r17 x31.length])), .AI r16 21 (AI (eI .i32) x30), .AI r17 4 (AI eB x31), .AI r1 5 (AI eY x2), .obj h2.size (.map 2 (BS (fun k : List UInt8 => .str k) (fun v : Int => .int .i32 v) x32)), .AI r18 9 (AI eS x33), .obj h.size (.cells none 2 [.bool p1.Fold, .bool p1.Aw])] F) ∨ (∃ x34 x35 x36 x37 x38, e = .ret ∧ .inr (x34, x35, x36, x37, x38) = o2 ∧ ∃ r19 r20 r21, Has fr' 104 [(6, .ptr none), (7, Ai x38)] ∧ HH g h' [.obj h3.size (.cells none 2 [AF rp0 p0.length, .bool p1.Fold, .bool p1.Aw, Ai p2, .ptr (some (h1.size, 0)), AF r1 x2.length, .map (some h2.size), AF r21 x37.length]), .AI rp0 264 (AI AM p0), .obj h1.size (.cells none 2 (Cj 256 (AA.int .u8) x1.BP ++ [Ai x1.An, AF r19 x34.length, AF r20 x35.length])), .AI r19 21 (AI (eI .i32) x34), .AI r20 4 (AI eB x35), .AI r1 5 (AI eY x2), .obj h2.size (.map 2 (BS (fun k : List UInt8 => .str k) (fun v : Int => .int .i32 v) x36)), .AI r21 9 (AI eS x37), .obj h.size (.cells none 2 [.bool p1.Fold, .bool p1.Aw])] F) ∨ False) ?_ ?_
   ·refine Bh (by kernel_rfl) (fun (s : (List Int) × (List Bool) × (List ((List UInt8) × Int)) × (List (List UInt8)) × Int) fr' h' => ∃ x25 x26 x27 x28 x29, (x25, x26, x27, x28, x29) = s ∧ ∃ r13 r14 r15, Has fr' 104 [(8, .ptr (some (h3.size, 0))), (10, Ai x15), (60, AF r1 x2.length), (61, Ai (x2.length : Int)), (62, Ai x29)] ∧ HH g h' [.obj h3.size (.cells none 2 [AF rp0 p0.length, .bool p1.Fold, .bool p1.Aw, Ai p2, .ptr (some (h1.size, 0)), AF r1 x2.length, .map (some h2.size), AF r15 x28.length]), .AI rp0 264 (AI AM p0), .obj h1.size (.cells none 2 (Cj 256 (AA.int .u8) x1.BP ++ [Ai x1.An, AF r13 x25.length, AF r14 x26.length])), .AI r13 21 (AI (eI .i32) x25), .AI r14 4 (AI eB x26), .AI r1 5 (AI eY x2), .obj h2.size (.map 2 (BS (fun k : List UInt8 => .str k) (fun v : Int => .int .i32 v) x27)), .AI r15 9 (AI eS x28), .obj h.size (.cells none 2 [.bool p1.Fold, .bool p1.Aw])] F) ho ⟨_, _, _, _, _, rfl, _, _, _, H.ls, A⟩ ?_
    clear ho hm H A
    intro s q fr h11 hI hm
    obtain ⟨x25, x26, x27, x28, x29, rfl, r13, r14, r15, H, A⟩ := hI
    unfold GR at hm
    refine AG 1 (AO 1 [(63, .bool (decide (x29 < (x2.length : Int))))] H fun fr H => AQ (Ad 63 H hm (fun hb hm H => ?_) fun hb hm H => ?_))
    ·refine Bf id (AQ (AV (id := 4) (by kernel_rfl) ?_))
     refine AG 3 ?_
     obtain ⟨x39, hx, hm⟩ := bind_some hm
     obtain ⟨i2, er2, _, hx, hq2⟩ := HH.Kn HK (by decide) A 5 (xs := x2) rfl hx
     refine Aq 64 (.ptr (some (i2, x29.toNat * 1))) h11 H (fun fr => .of (Dc (s := Cs r1 x2.length) (by kernel_rfl) hx)) fun fr t H => ?_
     refine Aq 65 _ _ H (fun fr => .of (Da (by kernel_rfl) (DD HK (HH.row A 5 rfl er2) hq2 (o := 0) rfl))) fun fr t H => ?_
     refine Bc 1 [(12, Ab (x39.toNat : Int))] 17 H fun fr H => Ag 5 [(67, .ptr (some (h3.size, 0))), (68, .ptr (some (h3.size, 0)))] 72 0 7 A H fun fr t H => ?_
     obtain ⟨x40, hx, hm⟩ := bind_some hm
     obtain ⟨i3, er3, _, hx, hq3⟩ := HH.Kn encS (by decide) A 7 (xs := x28) rfl hx
     refine Ap 1 [] 74 (.ptr (some (i3, x15.toNat * 1))) h11 H (fun fr => .of (Dc (s := Cs r15 x28.length) (by kernel_rfl) hx)) fun fr t H => ?_
     refine Aq 75 _ _ H (fun fr => .of (Da (by kernel_rfl) (DD encS (HH.row A 7 rfl er3) hq3 (o := 0) rfl))) fun fr t H => ?_
     obtain ⟨x41, hx, hm⟩ := bind_some hm
     obtain ⟨v1, h12, hr, rfl, A1⟩ := HI (av := [.ptr (some (h3.size, 0)), .str x40, Ab (x39.toNat : Int)]) hx (A.cut 8)
     replace A : HH g h12 [.obj h3.size (.cells none 2 [_, _, _, _, _, _, _, _]), .AI rp0 264 (AI AM p0), .obj h1.size (.cells none 2 (Cj 256 (AA.int .u8) x1.BP ++ [Ai x1.An, AF r13 x25.length, AF r14 x26.length])), .AI r13 21 (AI (eI .i32) x25), .AI r14 4 (AI eB x26), .AI r1 5 (AI eY x2), .obj h2.size (.map 2 (BS (fun k : List UInt8 => .str k) (fun v : Int => .int .i32 v) x27)), .AI r15 9 (AI eS x28), _] F := A.CY (n := 8) A1
     refine A0 1 [] 77 hr H fun fr t H => ?_
     obtain ⟨⟨x42, x43, x44, x45, x46⟩, hx, hm⟩ := bind_some hm
     obtain ⟨v1, h13, hr, r22, r23, rfl, A1⟩ := Eo (av := [.ptr (some (h3.size, 0)), .str x41]) hx (A.cut 8)
     replace A : HH g h13 [.obj h3.size (.cells none 2 [_, _, _, _, _, _, _, AF r23 x46.length]), .AI rp0 264 (AI AM p0), .obj h1.size (.cells none 2 (Cj 256 (AA.int .u8) x1.BP ++ [Ai x1.An, AF r13 x25.length, AF r22 x44.length])), .AI r13 21 (AI (eI .i32) x25), .AI r22 4 (AI eB x44), .AI r1 5 (AI eY x2), .obj h2.size (.map 2 (BS (fun k : List UInt8 => .str k) (fun v : Int => .int .i32 v) x45)), .AI r23 9 (AI eS x46), _] F := A.CY (n := 8) A1
     refine BA 78 hr H fun fr t H => ?_
     refine AO 5 [(13, .int .i32 x42), (14, .bool x43)] H fun fr H => AQ (AG 2 (AO 2 [(82, .bool (!x43))] H fun fr H => Ad 82 H hm (fun hb hm H => ?_) fun hb hm H => ?_))
     ·refine AG 2 (AO 2 [(6, .ptr none), (7, Ai 7)] H fun fr H => AU ?_)
      exact nr hm fun e => Or.inr (.inl ⟨_, _, _, _, _, rfl, e, _, _, _, H.ls, A⟩)
     refine Bf id (L0 19 17 [(0, []), (1, []), (2, []), (3, []), (4, []), (5, []), (6, []), (7, []), (8, []), (9, []), (10, []), (11, []), (12, []), (13, [3]), (14, []), (15, []), (16, [])] ?_)
     refine AK 3 [(85, .ptr (some (h3.size, 4)))] H fun fr H => DE 86 (.ptr (some (h1.size, 0))) h13 [(3, h3.size)] (g.Bq) H (fun fr => .of (Da (by kernel_rfl) (A.l1 0 4))) (fun fr H => ?_)
     refine AK 3 [(89, .ptr (some (h3.size, 4)))] H fun fr H => DE 90 (.ptr (some (h1.size, 0))) h13 [(7, h3.size), (3, h3.size)] (g.Bq) H (fun fr => .of (Da (by kernel_rfl) (A.l1 0 4))) (fun fr H => ?_)
     refine AK 2 [(92, .ptr (some (h1.size, 257)))] H fun fr H => DE 93 (AF r13 x25.length) h13 [(10, h1.size), (7, h3.size), (3, h3.size)] (g.Bq) H (fun fr => .of (Da (by kernel_rfl) (A.OI 2 rfl (o := 257) (by kernel_rfl)))) (fun fr H => ?_)
     refine AK 1 [(94, .int .i32 x42)] H fun fr H => ?_
     obtain ⟨h14, e6, A⟩ := A.pL 21 [.int .i32 x42]
     refine DE 95 (AF (some h13.size) (([x42] : List Int).length)) h14 [(12, h13.size), (10, h1.size), (7, h3.size), (3, h3.size)] (g.Bq) H (fun fr => .of (VT (by kernel_rfl) (congrArg some e6.symm))) (fun fr H => ?_)
     replace A : HH g h14 [_, .AI (some h13.size) 21 ([.int .i32 x42]), _, _, _, _, _, _, _, _] F := (A.front 4 rfl)
     have A1 := A.J1 1 (pr := [h3.size]) (.cons 1 rfl (by simp [Ck.ids]) .nil)
     obtain ⟨hb, hm⟩ := BE hm
     obtain ⟨r24, h15, hx, A1⟩ := HH.Ko (encI .i32) (by decide) A1 0 (xs := x25) (ys := ([x42] : List Int)) rfl (Cu A 1 rfl (n := ([x42] : List Int).length) (z := 1) rfl (by decide)) rfl rfl hb
     replace A := A.YO A1
     replace A := A.k9 0 2 3 4 5 6 7 8 9
     refine DE 96 (AF r24 ((x25 ++ ([x42] : List Int)).length)) h15 [(12, h13.size), (10, h1.size), (7, h3.size), (3, h3.size)] (h3.size :: g.Bq) H (fun fr => .of (Hh (s := Cs r13 x25.length) (by kernel_rfl) hx)) (fun fr H => ?_)
     refine AK 2 [(98, .ptr (some (h1.size, 257)))] H fun fr H => ?_
     obtain ⟨h16, hx, A1⟩ := A.st 3 rfl (o := 257) (new := [AF r24 ((x25 ++ ([x42] : List Int)).length)]) (ds := (Cj 256 (AA.int .u8) x1.BP ++ ([Ai x1.An, AF r24 ((x25 ++ ([x42] : List Int)).length), AF r22 x44.length]))) (Nat.le_of_ble_eq_true (by kernel_rfl)) rfl (by kernel_rfl)
     replace A : HH g h16 [_, _, _, .obj h1.size (.cells none 2 (Cj 256 (AA.int .u8) x1.BP ++ ([Ai x1.An, AF r24 ((x25 ++ ([x42] : List Int)).length), AF r22 x44.length]))), _, _, _, _, _] F := A1
     refine Kv (.tuple []) h16 [(12, h13.size), (10, h1.size), (7, h3.size), (3, h3.size)] (g.Bq) H (fun fr => .of (OU (by kernel_rfl) rfl hx)) (fun fr H => ?_)
     refine Ke 2 id (BV 2 [(8, .ptr (some (h3.size, 0))), (10, Ai x15), (60, AF r1 x2.length), (61, Ai (x2.length : Int)), (62, Ai (IntKind.i64.wrap (x29 + 1)))] H fun fr H => at_nil ?_)
     replace A := A.k9 1 2 3 0 4 5 6 7 8
     exact nx hm ⟨_, _, _, _, _, rfl, _, _, _, H.ls, A⟩
    refine BU (i := 3) (by kernel_rfl) ?_
    exact nr hm fun e => .inl ⟨_, _, _, _, rfl, e, _, _, _, H.ls, A⟩
   clear ho
   clear A
   intro e fr h17 hQ
   rcases hQ with ⟨x30, x31, x32, x33, rfl, rfl, r16, r17, r18, H, A⟩ | ⟨x34, x35, x36, x37, x38, rfl, rfl, r19, r20, r21, H, A⟩ | hF
   ·show AW _ _ _ _ _ _ _
    refine Cy 3 (BV 3 [(8, .ptr (some (h3.size, 0))), (10, Ai (IntKind.i64.wrap (x15 + 1)))] H fun fr H => at_nil ?_)
    exact nx hm ⟨_, _, _, _, _, rfl, _, _, _, H.ls, A⟩
   ·exact nr hm fun e => Or.inr (.inl ⟨_, _, _, _, _, rfl, e, _, _, _, H.ls, A⟩)
   exact hF.elim
  refine BU (i := 1) (by kernel_rfl) ?_
  exact nr hm fun e => .inl ⟨_, _, _, _, rfl, e, _, _, _, H.ls, A⟩
 clear ho
 clear A
 intro e fr h18 hQ
 rcases hQ with ⟨x16, x17, x18, x19, rfl, rfl, r7, r8, r9, H, A⟩ | ⟨x20, x21, x22, x23, x24, rfl, rfl, r10, r11, r12, H, A⟩ | hF
 ·show AW _ _ _ _ _ _ _
  refine AG 6 (Ag 3 [] 103 0 4 A H fun fr t H => ?_)
  refine AO 2 [(6, .ptr (some (h1.size, 0))), (7, Ai 0)] H fun fr H => AU ?_
  obtain ⟨rfl, rfl⟩ := Cw hm
  refine ⟨.inl rfl, .tuple [.ptr (some (h1.size, 0)), Ai 0], rH H, ?_⟩
  replace A := A.k4 2 3 4 1
  obtain ⟨h19, A1, hy0⟩ := (A.front 0 rfl).Xv
  replace A : HH g h19 [_, _, _] F := A1
  obtain ⟨h20, hz1, A1⟩ := (A.front 0 rfl).Xc (n := x16.length) (z := 1) ((encI .i32).J9 _) (by decide)
  replace A : HH g h20 [_, _] F := A1
  obtain ⟨h21, hz2, A1⟩ := (A.front 0 rfl).Xc (n := x17.length) (z := 1) (XN.J9 _) (by decide)
  replace A : HH g h21 [_] F := A1
  have hz0 := hy0 (Cj 256 (AA.int .u8) x1.BP ++ [Ai x1.An, vs (eI .i32) x16, vs eB x17]) h21 (by simp only [PV, Pu, PW, Pz, Pq, Py, Pj, Ph, Ps, Pv, Pw, P2, Pr, GQ, GW, GJ, GP, GL, GY, GN, Option.map_some, Rh, SN, hz1, hz2] <;> rfl)
  refine ⟨.tuple [.A8 (Cj 256 (AA.int .u8) x1.BP ++ [Ai x1.An, vs (eI .i32) x16, vs eB x17]), Ai 0], h21, by first | rfl | (simp only [PV, Pu, PW, Pz, Pq, Py, Pj, Ph, Ps, Pv, Pw, P2, Pr, GQ, GW, GJ, GP, GL, GY, GN, Option.map_some, Rh, SN, hz0, hz1, hz2] <;> rfl), ?_⟩
  exact .inl ⟨(⟨x1.BP, x1.An, x16, x17⟩ : Ba), rfl, rfl, A⟩
 ·obtain ⟨rfl, rfl⟩ := Cw hm
  refine ⟨.inl rfl, .tuple [.ptr none, Ai x24], rH H, ?_⟩
  replace A := A.k1 1
  refine ⟨.tuple [.ptr none, Ai x24], h18, by first | rfl | (simp only [PV, Pu, PW, Pz, Pq, Py, Pj, Ph, Ps, Pv, Pw, P2, Pr, GQ, GW, GJ, GP, GL, GY, GN, Option.map_some] <;> rfl), ?_⟩
  exact .inr ⟨rfl, rfl, A⟩
 exact hF.elim
def Jn (p0 : AR) (p1 : Int) : Option ((Option Ah) × Int × Int) :=
 (IM p0.Text).bind fun (x1, x2, x3) => Aa (x3 != 0) (some (none, x2, x3)) ((Ff x1 (⟨p0.Fold, p0.Aw⟩ : EA) p1).bind fun (w5, x5) => (match w5 with | some x4 => Aa (x5 != 0) (some (none, (0 : Int), x5)) (some (some (⟨p0, x4⟩ : Ah), (0 : Int), (0 : Int))) | none => Aa (x5 != 0) (some (none, (0 : Int), x5)) (none)))
theorem Og {p0 p1 o0 q1 q2} (hm : Jn p0 p1 = some (o0, q1, q2)) (A : HH g h [] F) (hc : BF (cfg.still 68) av = [.agg (AE p0), Ai p1] := by kernel_rfl) : ∃ v h', BL cfg g h 68 av v h' ∧ ((∃ (q0 : Ah), o0 = some q0 ∧ v = .tuple [.A8 (AB q0), Ai q1, Ai q2] ∧ HH g h' [] F) ∨ (o0 = none ∧ v = .tuple [.ptr none, Ai q1, Ai q2] ∧ HH g h' [] F)) := by
 refine Y3 40 [.tmp 4, .tmp 5, .tmp 6] hc ?_
 clear hc
 unfold Jn at hm
 refine bg 40 [(0, .agg (AE p0)), (1, Ai p1)] fun fr H => ?_
 refine AG 4 ?_
 obtain ⟨h1, e1, A⟩ := A.pu (.cells none 2 (AE p0))
 refine BB 2 (.ptr (some (h.size, 0))) e1 H fun fr t H => ?_
 refine Bc 3 [] 10 H fun fr H => Ag 1 [] 13 0 0 A H fun fr t H => ?_
 obtain ⟨⟨x1, x2, x3⟩, hx, hm⟩ := bind_some hm
 obtain ⟨v1, h2, hr, rqw1, rfl, A1⟩ := L5 (av := [.str p0.Text]) hx (A.cut 0)
 replace A : HH g h2 [.AI rqw1 264 (AI AM x1), .obj h.size (.cells none 2 (AE p0))] F := A.CY (n := 0) A1
 refine BA 14 hr H fun fr t H => ?_
 refine AO 7 [(7, AF rqw1 x1.length), (8, Ai x2), (9, Ai x3)] H fun fr H => AQ (AG 2 (AO 2 [(19, .bool (x3 != 0))] H fun fr H => Ad 19 H hm (fun hb hm H => ?_) fun hb hm H => ?_))
 ·refine AG 5 (AO 5 [(4, .ptr none), (5, Ai x2), (6, Ai x3)] H fun fr H => AU ?_)
  obtain ⟨rfl, rfl, rfl⟩ := IY hm
  refine ⟨.inl rfl, .tuple [.ptr none, Ai x2, Ai x3], rH H, ?_⟩
  replace A := A.d0
  refine ⟨.tuple [.ptr none, Ai x2, Ai x3], h2, by first | rfl | (simp only [PV, Pu, PW, Pz, Pq, Py, Pj, Ph, Ps, Pv, Pw, P2, Pr, GQ, GW, GJ, GP, GL, GY, GN, Option.map_some] <;> rfl), ?_⟩
  exact .inr ⟨rfl, rfl, A⟩
 refine Ce 13 id (Ag 2 [(23, AF rqw1 x1.length)] 25 1 2 A H fun fr t H => ?_)
 refine Ag 1 [] 27 1 3 A H fun fr t H => ?_
 obtain ⟨⟨w5, x5⟩, hx, hm⟩ := bind_some hm
 obtain ⟨v1, h3, hr, hc⟩ := KD (av := [AF rqw1 x1.length, .agg [.bool p0.Fold, .bool p0.Aw], Ai p1]) hx (A.cut 1)
 rcases hc with ⟨x4, rfl, rfl, A1⟩ | ⟨rfl, rfl, A1⟩
 ·replace A := A.g11 A1
  refine A0 2 [] 30 hr H fun fr t H => ?_
  refine BV 5 [(2, .ptr (some (h.size, 0))), (9, Ai x5), (10, .A8 (Cj 256 (AA.int .u8) x4.BP ++ [Ai x4.An, vs (eI .i32) x4.BO, vs eB x4.A7]))] H fun fr H => BJ id (AQ (AG 2 (AO 2 [(34, .bool (x5 != 0))] H fun fr H => Ad 34 H hm (fun hb hm H => ?_) fun hb hm H => ?_)))
  ·refine AG 4 (AO 4 [(4, .ptr none), (5, Ai 0), (6, Ai x5)] H fun fr H => AU ?_)
   obtain ⟨rfl, rfl, rfl⟩ := IY hm
   refine ⟨.inl rfl, .tuple [.ptr none, Ai 0, Ai x5], rH H, ?_⟩
   replace A := A.d0
   refine ⟨.tuple [.ptr none, Ai 0, Ai x5], h3, by first | rfl | (simp only [PV, Pu, PW, Pz, Pq, Py, Pj, Ph, Ps, Pv, Pw, P2, Pr, GQ, GW, GJ, GP, GL, GY, GN, Option.map_some] <;> rfl), ?_⟩
   exact .inr ⟨rfl, rfl, A⟩
  refine Ce 7 id (Aq 36 _ _ H (fun fr => .of (CG (by kernel_rfl) (A.HG 1 rfl (o := 0) (n := 4) ⟨Nat.le_of_ble_eq_true rfl, rfl⟩))) fun fr t H => ?_)
  obtain ⟨h4, e2, A⟩ := A.pu (.cells none 2 [.str p0.Text, .bool p0.B2, .bool p0.Fold, .bool p0.Aw, .A8 (Cj 256 (AA.int .u8) x4.BP ++ [Ai x4.An, vs (eI .i32) x4.BO, vs eB x4.A7])])
  refine KB 2 [] 39 (.ptr (some (h3.size, 0))) e2 H fun fr t H => ?_
  refine AO 3 [(4, .ptr (some (h3.size, 0))), (5, Ai 0), (6, Ai 0)] H fun fr H => AU ?_
  obtain ⟨rfl, rfl, rfl⟩ := IY hm
  refine ⟨.inl rfl, .tuple [.ptr (some (h3.size, 0)), Ai 0, Ai 0], rH H, ?_⟩
  replace A : HH g h4 [.obj h3.size (.cells none 2 [.str p0.Text, .bool p0.B2, .bool p0.Fold, .bool p0.Aw, .A8 (Cj 256 (AA.int .u8) x4.BP ++ [Ai x4.An, vs (eI .i32) x4.BO, vs eB x4.A7])])] F := (HH.JS (A.front 0 rfl) 1)
  obtain ⟨h5, A1, hy0⟩ := (A.front 0 rfl).Xv
  replace A : HH g h5 [] F := A1
  have hz0 := hy0 [.str p0.Text, .bool p0.B2, .bool p0.Fold, .bool p0.Aw, .A8 (Cj 256 (AA.int .u8) x4.BP ++ [Ai x4.An, vs (eI .i32) x4.BO, vs eB x4.A7])] h5 (by simp only [PV, Pu, PW, Pz, Pq, Py, Pj, Ph, Ps, Pv, Pw, P2, Pr, GQ, GW, GJ, GP, GL, GY, GN, Option.map_some, AB] <;> rfl)
  refine ⟨.tuple [.A8 [.str p0.Text, .bool p0.B2, .bool p0.Fold, .bool p0.Aw, .A8 (Cj 256 (AA.int .u8) x4.BP ++ [Ai x4.An, vs (eI .i32) x4.BO, vs eB x4.A7])], Ai 0, Ai 0], h5, by first | rfl | (simp only [PV, Pu, PW, Pz, Pq, Py, Pj, Ph, Ps, Pv, Pw, P2, Pr, GQ, GW, GJ, GP, GL, GY, GN, Option.map_some, AB, hz0] <;> rfl), ?_⟩
  exact .inl ⟨(⟨p0, x4⟩ : Ah), rfl, rfl, A⟩
 replace A := A.g11 A1
 refine A0 2 [] 30 hr H fun fr t H => ?_
 refine BV 5 [(2, .ptr (some (h.size, 0))), (9, Ai x5), (10, .ptr none)] H fun fr H => BJ id (AQ (AG 2 (AO 2 [(34, .bool (x5 != 0))] H fun fr H => Ad 34 H hm (fun hb hm H => ?_) fun hb hm H => ?_)))
 ·refine AG 4 (AO 4 [(4, .ptr none), (5, Ai 0), (6, Ai x5)] H fun fr H => AU ?_)
  obtain ⟨rfl, rfl, rfl⟩ := IY hm
  refine ⟨.inl rfl, .tuple [.ptr none, Ai 0, Ai x5], rH H, ?_⟩
  replace A := A.d0
  refine ⟨.tuple [.ptr none, Ai 0, Ai x5], h3, by first | rfl | (simp only [PV, Pu, PW, Pz, Pq, Py, Pj, Ph, Ps, Pv, Pw, P2, Pr, GQ, GW, GJ, GP, GL, GY, GN, Option.map_some] <;> rfl), ?_⟩
  exact .inr ⟨rfl, rfl, A⟩
 refine Ce 7 id (Aq 36 _ _ H (fun fr => .of (CG (by kernel_rfl) (A.HG 1 rfl (o := 0) (n := 4) ⟨Nat.le_of_ble_eq_true rfl, rfl⟩))) fun fr t H => ?_)
 obtain ⟨h6, e3, A⟩ := A.pu (.cells none 2 [.str p0.Text, .bool p0.B2, .bool p0.Fold, .bool p0.Aw, .ptr none])
 refine KB 2 [] 39 (.ptr (some (h3.size, 0))) e3 H fun fr t H => ?_
 refine AO 3 [(4, .ptr (some (h3.size, 0))), (5, Ai 0), (6, Ai 0)] H fun fr H => AU ?_
 cases hm
def Hw (p0 : List AR) (p1 : Int) (s : (List Ah) × Int) : Option (((List Ah) × Int) ⊕ (((List Ah)) ⊕ (Int))) :=
 match s with
 | (x1, x2) => Aa (decide (x2 < (p0.length : Int))) ((Fc p0 x2).bind fun x5 => (Jn x5 p1).bind fun (w2, x7, x8) => (match w2 with | some x6 => Aa (x8 != 0) (some (.inr (.inr x8))) (Em (Nd 8 (x1.length + ([x6] : List Ah).length)) <| some (.inl ((x1 ++ ([x6] : List Ah)), IntKind.i64.wrap (x2 + 1)))) | none => Aa (x8 != 0) (some (.inr (.inr x8))) (none))) (some (.inr (.inl x1)))
def Fj (p0 : List AR) (p1 : Int) : Option ((List Ah) × Int) :=
 (loop (Hw p0 p1) (([] : List Ah), (0 : Int))).bind fun o1 => (match o1 with | .inl x3 => some (x3, (0 : Int)) | .inr x4 => some (([] : List Ah), x4))
theorem Ig {p0 p1 q0 q1} (hm : Fj p0 p1 = some (q0, q1)) (A : HH g h [] F) (hc : BF (cfg.still 31) av = [vs AE p0, Ai p1] := by kernel_rfl) : ∃ v h', BL cfg g h 31 av v h' ∧ ∃ (rq0 : Option Nat), v = .tuple [AF rq0 q0.length, Ai q1] ∧ HH g h' [.AI rq0 136 (AI (eP AB) q0)] F := by
 refine Dr 34 [.tmp 4, .tmp 5] hc ?_
 clear hc
 unfold Fj at hm
 refine bg 34 [(0, vs AE p0), (1, Ai p1)] fun fr H => ?_
 refine AG 2 (Bc 2 [] 1 H fun fr H => AO 1 [(6, .slice none 0)] H fun fr H => AQ (AG 3 (AO 3 [(12, vs AE p0), (13, Ai (p0.length : Int)), (14, Ai 0)] H fun fr H => AV (id := 0) (by kernel_rfl) ?_)))
 replace A : HH g h [.AI none 136 (AI (eP AB) ([] : List Ah))] F := A.Kk 136
 obtain ⟨o1, ho, hm⟩ := bind_some hm
 refine Ax (Q' := fun e fr' h' => (∃ x3, e = .exit 0 ∧ .inl x3 = o1 ∧ ∃ r2, Has fr' 34 [(6, AF r2 x3.length)] ∧ HH g h' [.AI r2 136 (AI (eP AB) x3)] F) ∨ (∃ x4, e = .ret ∧ .inr x4 = o1 ∧ Has fr' 34 [(4, .slice none 0), (5, Ai x4)] ∧ HH g h' [] F) ∨ False) ?_ ?_
 ·refine Bh (by kernel_rfl) (fun (s : (List Ah) × Int) fr' h' => ∃ x1 x2, (x1, x2) = s ∧ ∃ r1, Has fr' 34 [(1, Ai p1), (6, AF r1 x1.length), (12, vs AE p0), (13, Ai (p0.length : Int)), (14, Ai x2)] ∧ HH g h' [.AI r1 136 (AI (eP AB) x1)] F) ho ⟨_, _, rfl, none, H.ls, A⟩ ?_
  clear ho hm H A
  intro s q fr h1 hI hm
  obtain ⟨x1, x2, rfl, r1, H, A⟩ := hI
  unfold Hw at hm
  refine AG 1 (AO 1 [(15, .bool (decide (x2 < (p0.length : Int))))] H fun fr H => AQ (Ad 15 H hm (fun hb hm H => ?_) fun hb hm H => ?_))
  ·refine Bf id (AQ (AV (id := 1) (by kernel_rfl) ?_))
   refine AG 4 ?_
   obtain ⟨x5, hx, hm⟩ := bind_some hm
   refine Aq 16 (.A8 (AE x5)) h1 H (fun fr => .of (GC (e := AE) (x := x5) B4 (by decide) (by kernel_rfl) hx)) fun fr t H => ?_
   refine Aq 17 (.agg (AE x5)) h1 H (fun fr => .of (G0 (by kernel_rfl))) fun fr t H => ?_
   obtain ⟨h2, e1, A⟩ := A.pu (.cells none 2 [.str ([] : List UInt8), .bool false, .bool false, .bool false])
   refine BB 8 (.ptr (some (h1.size, 0))) e1 H fun fr t H => ?_
   obtain ⟨h3, hx, A⟩ := A.s0 0 (AE x5) [_, _, _, _]
   refine F4 hx H fun fr t H => ?_
   refine CX 10 id (Aq 19 _ _ H (fun fr => .of (CG (by kernel_rfl) (A.HG 0 rfl (o := 0) (n := 4) ⟨Nat.le_of_ble_eq_true rfl, rfl⟩))) fun fr t H => ?_)
   obtain ⟨⟨w2, x7, x8⟩, hx, hm⟩ := bind_some hm
   obtain ⟨v1, h4, hr, hc⟩ := Og (av := [.agg (AE x5), Ai p1]) hx (A.cut 0)
   rcases hc with ⟨x6, rfl, rfl, A1⟩ | ⟨rfl, rfl, A1⟩
   ·replace A := A.EX A1
    refine A0 1 [] 21 hr H fun fr t H => ?_
    refine AO 7 [(9, .A8 (AB x6)), (11, Ai x8)] H fun fr H => AQ (AG 2 (AO 2 [(26, .bool (x8 != 0))] H fun fr H => Ad 26 H hm (fun hb hm H => ?_) fun hb hm H => ?_))
    ·refine AG 3 (AO 3 [(4, .slice none 0), (5, Ai x8)] H fun fr H => AU ?_)
     replace A := A.d0
     exact nr hm fun e => Or.inr (.inl ⟨_, rfl, e, H.ls, A⟩)
    refine Fh 5 id (AK 2 [(28, AF r1 x1.length), (29, .A8 (AB x6))] H fun fr H => ?_)
    obtain ⟨h5, e2, A⟩ := A.pL 136 [.A8 (AB x6)]
    refine BB 30 (AF (some h4.size) (([x6] : List Ah).length)) e2 H fun fr t H => ?_
    obtain ⟨hb, hm⟩ := BE hm
    obtain ⟨r3, h6, hx, A1⟩ := HH.Ko (RL _) (by decide) A 2 (xs := x1) (ys := ([x6] : List Ah)) rfl (Cu A 0 rfl (n := ([x6] : List Ah).length) (z := 1) rfl (by decide)) rfl rfl hb
    replace A : HH g h6 [.AI (some h4.size) 136 ([.A8 (AB x6)]), _, .AI r3 136 (AI (eP AB) (x1 ++ ([x6] : List Ah)))] F := A1
    replace A := A.k2 1 2
    refine Aq 31 _ _ H (fun fr => .of (Hh (s := Cs r1 x1.length) (by kernel_rfl) hx)) fun fr t H => ?_
    refine BV 1 [(1, Ai p1), (6, AF r3 ((x1 ++ ([x6] : List Ah)).length)), (12, vs AE p0), (13, Ai (p0.length : Int)), (14, Ai x2)] H fun fr H => Ke 2 id (BV 2 [(1, Ai p1), (6, AF r3 ((x1 ++ ([x6] : List Ah)).length)), (12, vs AE p0), (13, Ai (p0.length : Int)), (14, Ai (IntKind.i64.wrap (x2 + 1)))] H fun fr H => at_nil ?_)
    replace A := A.k1 1
    exact nx hm ⟨_, _, rfl, _, H.ls, A⟩
   replace A := A.EX A1
   refine A0 1 [] 21 hr H fun fr t H => ?_
   refine AO 7 [(9, .ptr none), (11, Ai x8)] H fun fr H => AQ (AG 2 (AO 2 [(26, .bool (x8 != 0))] H fun fr H => Ad 26 H hm (fun hb hm H => ?_) fun hb hm H => ?_))
   ·refine AG 3 (AO 3 [(4, .slice none 0), (5, Ai x8)] H fun fr H => AU ?_)
    replace A := A.d0
    exact nr hm fun e => Or.inr (.inl ⟨_, rfl, e, H.ls, A⟩)
   refine Fh 5 id (AK 2 [(28, AF r1 x1.length), (29, .ptr none)] H fun fr H => ?_)
   cases hm
  refine BU (i := 0) (by kernel_rfl) ?_
  exact nr hm fun e => .inl ⟨_, rfl, e, _, H.ls, A⟩
 clear ho
 clear A
 intro e fr h7 hQ
 rcases hQ with ⟨x3, rfl, rfl, r2, H, A⟩ | ⟨x4, rfl, rfl, H, A⟩ | hF
 ·show AW _ _ _ _ _ _ _
  refine AG 3 (AO 3 [(4, AF r2 x3.length), (5, Ai 0)] H fun fr H => AU ?_)
  obtain ⟨rfl, rfl⟩ := Cw hm
  exact ⟨.inl rfl, _, rH H, _, rfl, A⟩
 ·obtain ⟨rfl, rfl⟩ := Cw hm
  refine ⟨.inl rfl, .tuple [.slice none 0, Ai x4], rH H, ?_⟩
  replace A : HH g h7 [.AI none 136 (AI (eP AB) ([] : List Ah))] F := A.Kk 136
  exact ⟨none, rfl, A⟩
 exact hF.elim
def K5 (p0 : List Az) (s : Int) : Option ((Int) ⊕ ((Unit))) :=
 match s with
 | x1 => Aa (decide (x1 < (p0.length : Int))) ((Fc p0 x1).bind fun x2 => none) (some (.inr ()))
def LO (p0 : List Az) (p1 : Int) (p2 : Int) : Option ((Option CQ) × Int × Int) :=
 Aa ((decide (p2 < 1)) || (decide (p2 > 4096))) (some (none, (0 : Int), (6 : Int))) (Aa (decide ((p0.length : Int) > 256)) (some (none, (0 : Int), (8 : Int))) ((loop (K5 p0) (0 : Int)).bind fun _ => some (some (⟨([] : List EM), p2⟩ : CQ), (0 : Int), (0 : Int))))
theorem Q6 {p0 p1 p2 o0 q1 q2} (hm : LO p0 p1 p2 = some (o0, q1, q2)) (A : HH g h [] F) (hc : BF (cfg.still 32) av = [vs AJ p0, Ai p1, Ai p2] := by kernel_rfl) : ∃ v h', BL cfg g h 32 av v h' ∧ ((∃ (bq00 : Nat) (rq00_0 : Option Nat) (q00 : CQ), o0 = some q00 ∧ v = .tuple [.ptr (some (bq00, 0)), Ai q1, Ai q2] ∧ HH g h' [.obj bq00 (.cells none 2 [AF rq00_0 q00.l_.length, Ai q00.Bd]), .AI rq00_0 142 (AI (eP AL) q00.l_)] F) ∨ (o0 = none ∧ v = .tuple [.ptr none, Ai q1, Ai q2] ∧ HH g h' [] F)) := by
 refine Dr 59 [.tmp 6, .tmp 7, .tmp 8] hc ?_
 clear hc
 unfold LO at hm
 refine bg 59 [(0, vs AJ p0), (1, Ai p1), (2, Ai p2)] fun fr H => ?_
 refine AG 3 (AO 3 [] H fun fr H => AQ (AV (id := 0) (by kernel_rfl) ?_))
 refine AG 7 (AK 3 [(18, .bool (decide (p2 < 1)))] H fun fr H => A9 3 (fun fr' h' => h = h' ∧ Has fr' 59 [(0, vs AJ p0), (1, Ai p1), (2, Ai p2), (21, .bool ((decide (p2 < 1)) || (decide (p2 > 4096))))]) ?_ ?_)
 ·cases hb : (decide (p2 < 1) : Bool) with
  | true =>
   replace H := H.kn 18 hb
   exact AK 3 [(21, .bool true)] H fun fr H => BH H hb
  | false =>
   replace H := H.kn 18 hb
   exact AK 3 [(21, .bool (decide (p2 > 4096)))] H fun fr H => BH H hb
 intro t fr h' hK
 obtain ⟨e, H⟩ := hK
 subst e
 refine AO 1 [(15, .bool ((decide (p2 < 1)) || (decide (p2 > 4096))))] H fun fr H => Ad 15 H hm (fun hb hm H => ?_) fun hb hm H => ?_
 ·refine AG 3 (AO 3 [(6, .ptr none), (7, Ai 0), (8, Ai 6)] H fun fr H => AU ?_)
  obtain ⟨rfl, rfl, rfl⟩ := IY hm
  refine ⟨.inl rfl, .tuple [.ptr none, Ai 0, Ai 6], rH H, ?_⟩
  exact .inr ⟨rfl, rfl, A⟩
 refine AG 4 (AO 4 [(22, .bool (decide ((p0.length : Int) > 256)))] H fun fr H => Ad 22 H hm (fun hb hm H => ?_) fun hb hm H => ?_)
 ·refine AG 3 (AO 3 [(6, .ptr none), (7, Ai 0), (8, Ai 8)] H fun fr H => AU ?_)
  obtain ⟨rfl, rfl, rfl⟩ := IY hm
  refine ⟨.inl rfl, .tuple [.ptr none, Ai 0, Ai 8], rH H, ?_⟩
  exact .inr ⟨rfl, rfl, A⟩
 refine Ce 4 id ?_
 obtain ⟨h1, e1, A⟩ := A.pu (.cells none 2 [.slice none 0, Ai p2])
 refine KB 2 [] 28 (.ptr (some (h.size, 0))) e1 H fun fr t H => ?_
 refine AO 1 [(9, .ptr (some (h.size, 0)))] H fun fr H => AQ (AG 3 (AO 3 [(29, vs AJ p0), (30, Ai (p0.length : Int)), (31, Ai 0)] H fun fr H => AV (id := 1) (by kernel_rfl) ?_))
 obtain ⟨o1, ho, hm⟩ := bind_some hm
 refine Ax (Q' := fun e fr' h' => (e = .exit 1 ∧ () = o1 ∧ Has fr' 59 [(9, .ptr (some (h.size, 0)))] ∧ HH g h' [.obj h.size (.cells none 2 [.slice none 0, Ai p2])] F) ∨ False) ?_ ?_
 ·refine Bh (by kernel_rfl) (fun (s : Int) fr' h' => ∃ x1, x1 = s ∧ Has fr' 59 [(1, Ai p1), (9, .ptr (some (h.size, 0))), (29, vs AJ p0), (30, Ai (p0.length : Int)), (31, Ai x1)] ∧ HH g h' [.obj h.size (.cells none 2 [.slice none 0, Ai p2])] F) ho ⟨_, rfl, H.ls, A⟩ ?_
  clear ho hm H A
  intro s q fr h2 hI hm
  obtain ⟨x1, rfl, H, A⟩ := hI
  unfold K5 at hm
  refine AG 1 (AO 1 [(32, .bool (decide (x1 < (p0.length : Int))))] H fun fr H => AQ (Ad 32 H hm (fun hb hm H => ?_) fun hb hm H => ?_))
  ·refine Bf id (AQ (AV (id := 2) (by kernel_rfl) ?_))
   refine AG 6 ?_
   obtain ⟨x2, hx, hm⟩ := bind_some hm
   refine Ap 1 [(33, Ai x1)] 34 (.A8 (AJ x2)) h2 H (fun fr => .of (GC (e := AJ) (x := x2) EK (by decide) (by kernel_rfl) hx)) fun fr t H => ?_
   refine Aq 35 (.agg (AJ x2)) h2 H (fun fr => .of (G0 (by kernel_rfl))) fun fr t H => ?_
   obtain ⟨h3, e2, A⟩ := A.pu (.cells none 2 [.str ([] : List UInt8), .str ([] : List UInt8), .bool false, .bool false, .bool false, Ai 0, .bool false, .bool false, .bool false])
   refine BB 11 (.ptr (some (h2.size, 0))) e2 H fun fr t H => ?_
   obtain ⟨h4, hx, A⟩ := A.s0 0 (AJ x2) [_, _, _, _, _, _, _, _, _]
   refine Fk 1 [(10, Ai x1)] hx H fun fr t H => ?_
   refine CX 10 id (Aq 37 _ _ H (fun fr => .of (CG (by kernel_rfl) (A.HG 0 rfl (o := 0) (n := 9) ⟨Nat.le_of_ble_eq_true rfl, rfl⟩))) fun fr t H => ?_)
   cases hm
  refine BU (i := 1) (by kernel_rfl) ?_
  exact nr hm fun e => .inl ⟨rfl, e, H.ls, A⟩
 clear ho
 clear A
 intro e fr h5 hQ
 rcases hQ with ⟨rfl, rfl, H, A⟩ | hF
 ·show AW _ _ _ _ _ _ _
  refine AG 4 (AO 4 [(6, .ptr (some (h.size, 0))), (7, Ai 0), (8, Ai 0)] H fun fr H => AU ?_)
  obtain ⟨rfl, rfl, rfl⟩ := IY hm
  refine ⟨.inl rfl, .tuple [.ptr (some (h.size, 0)), Ai 0, Ai 0], rH H, ?_⟩
  replace A : HH g h5 [.AI none 142 (AI (eP AL) ([] : List EM)), .obj h.size (.cells none 2 [AF none (([] : List EM).length), Ai p2])] F := A.Kk 142
  replace A := A.k2 1 0
  exact .inl ⟨h.size, none, (⟨([] : List EM), p2⟩ : CQ), rfl, rfl, A⟩
 exact hF.elim
def Fm : Option (Ay) :=
 some (⟨([] : List ((List UInt8) × Bool))⟩ : Ay)
theorem Kc {q00} (hm : Fm = some q00) (A : HH g h [] F) (hc : BF (cfg.still 46) av = [] := by kernel_rfl) : ∃ v h', BL cfg g h 46 av v h' ∧ ∃ (bq00 : Nat) (bq00_0 : Nat), v = .ptr (some (bq00, 0)) ∧ HH g h' [.obj bq00 (.cells none 2 [.map (some bq00_0)]), .obj bq00_0 (.map 2 (BS (fun k : List UInt8 => .str k) (fun v : Bool => .bool v) q00.Cf))] F := by
 refine Dr 4 [.tmp 0] hc ?_
 clear hc
 unfold Fm at hm
 refine bg 4 [] fun fr H => ?_
 refine AG 1 (Bc 1 [] 4 H fun fr H => ?_)
 obtain ⟨h1, e1⟩ : ∃ x, x = h.push (.map 2 []) := ⟨_, rfl⟩
 replace A : HH g h1 [.obj h.size (.map 2 (BS (fun k : List UInt8 => .str k) (fun v : Bool => .bool v) ([] : List ((List UInt8) × Bool))))] F := (A.push _).to e1
 refine BB 1 (.map (some h.size)) e1 H fun fr t H => ?_
 obtain ⟨h2, e2, A⟩ := A.pu (.cells none 2 [.map (some h.size)])
 refine KB 1 [] 3 (.ptr (some (h1.size, 0))) e2 H fun fr t H => ?_
 refine AO 1 [(0, .ptr (some (h1.size, 0)))] H fun fr H => AU ?_
 obtain rfl := AY hm
 exact ⟨.inl rfl, _, rH H, _, _, rfl, A⟩
end
end Go.Av.L
