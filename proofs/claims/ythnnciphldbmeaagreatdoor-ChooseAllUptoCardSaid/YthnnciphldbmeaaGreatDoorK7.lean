/-
 Models of functions, and that the abstract run tells them. Written by lift2.py.
-/
import Derived.Test.YthnnciphldbmeaaGreatDoorKCfg
import Derived.Test.YthnnciphldbmeaaGreatDoorK1
import Derived.Test.YthnnciphldbmeaaGreatDoorK3
import Derived.Test.YthnnciphldbmeaaGreatDoorK4
import Derived.Test.YthnnciphldbmeaaGreatDoorK5
import Derived.Test.YthnnciphldbmeaaGreatDoorK6
namespace Go.Av.L
open Go.Av Go.Lib
set_option maxRecDepth 10000
set_option maxHeartbeats 4000000
set_option linter.unusedVariables false
set_option linter.unusedSimpArgs false
variable {g : Gd} {h : AH} {F : List Ck} {av : List AA}
noncomputable section
def CI : Option (Bool) :=
 (IU ([101, 120, 99, 108, 117, 100, 101, 32, 42, 46, 111, 10, 115, 116, 114, 105, 112, 32, 49] : List UInt8)).bind fun (x1, x2, x3) => (G2 x1).bind fun (w5, x5) => (match w5 with | some x4w4 => Ae (((x3 != 0) || (x5 != 0)) || false) (some false) ((CN x4w4 (⟨([97, 46, 111] : List UInt8), ([] : List UInt8), (48 : Int), (0 : Int), (0 : Int), (0 : Int), ([] : List UInt8), ([] : List UInt8), (0 : Int), (0 : Int), (⟨(0 : Int), (0 : Int)⟩ : Aw), ([] : List Am), ([] : List UInt8)⟩ : AV)).bind fun (x6, x7, x8, x9) => (CN (⟨x4w4.c_, x4w4.AZ, x4w4.Ac, x4w4.Ad, x9⟩ : Bg) (⟨([97, 47, 98] : List UInt8), ([] : List UInt8), (48 : Int), (0 : Int), (0 : Int), (0 : Int), ([] : List UInt8), ([] : List UInt8), (0 : Int), (0 : Int), (⟨(0 : Int), (0 : Int)⟩ : Aw), ([] : List Am), ([] : List UInt8)⟩ : AV)).bind fun (x10, x11, x12, x13) => (CN (⟨x4w4.c_, x4w4.AZ, x4w4.Ac, x4w4.Ad, x13⟩ : Bg) (⟨([97] : List UInt8), ([] : List UInt8), (48 : Int), (0 : Int), (0 : Int), (0 : Int), ([] : List UInt8), ([] : List UInt8), (0 : Int), (0 : Int), (⟨(0 : Int), (0 : Int)⟩ : Aw), ([] : List Am), ([] : List UInt8)⟩ : AV)).bind fun (x14, x15, x16, x17) => some (((((x7 == 1) && (x11 == 0)) && (x12 == 0)) && (x10.Name == ([98] : List UInt8))) && (x15 == 8))) | none => Ae (((x3 != 0) || (x5 != 0)) || true) (some false) ((C6 (⟨([97, 46, 111] : List UInt8), ([] : List UInt8), (48 : Int), (0 : Int), (0 : Int), (0 : Int), ([] : List UInt8), ([] : List UInt8), (0 : Int), (0 : Int), (⟨(0 : Int), (0 : Int)⟩ : Aw), ([] : List Am), ([] : List UInt8)⟩ : AV)).bind fun (x18, x19, x20) => (C6 (⟨([97, 47, 98] : List UInt8), ([] : List UInt8), (48 : Int), (0 : Int), (0 : Int), (0 : Int), ([] : List UInt8), ([] : List UInt8), (0 : Int), (0 : Int), (⟨(0 : Int), (0 : Int)⟩ : Aw), ([] : List Am), ([] : List UInt8)⟩ : AV)).bind fun (x21, x22, x23) => (C6 (⟨([97] : List UInt8), ([] : List UInt8), (48 : Int), (0 : Int), (0 : Int), (0 : Int), ([] : List UInt8), ([] : List UInt8), (0 : Int), (0 : Int), (⟨(0 : Int), (0 : Int)⟩ : Aw), ([] : List Am), ([] : List UInt8)⟩ : AV)).bind fun (x24, x25, x26) => some (((((x19 == 1) && (x22 == 0)) && (x23 == 0)) && (x21.Name == ([98] : List UInt8))) && (x25 == 8))))
theorem DU {q0} (hm : CI = some q0) (A : HH g h [] F) (hc : BI (cfg.still 7) av = [] := by kernel_rfl) : ∃ v h', BL cfg g h 7 av v h' ∧ v = .bool q0 ∧ HH g h' [] F := by
 refine D5 75 [.tmp 0] hc ?_
 clear hc
 unfold CI at hm
 refine bg 75 [] fun fr H => ?_
 refine AG 1 (BT 1 [] 9 H fun fr H => ?_)
 obtain ⟨⟨x1, x2, x3⟩, hx, hm⟩ := bind_some hm
 obtain ⟨v1, h1, hr, rfl, A1⟩ := NI (av := [.str ([101, 120, 99, 108, 117, 100, 101, 32, 42, 46, 111, 10, 115, 116, 114, 105, 112, 32, 49] : List UInt8)]) hx (A.cut 0)
 replace A := A.EV A1
 refine Ay 16 hr H fun fr t H => ?_
 obtain ⟨h2, e1, A⟩ := A.pu (.cells none 2 [.slice none 0, .slice none 0, .slice none 0, .bool false, .bool false, Ai 0, .bool false, Ai 0, Ai 0, Ai 0, Ai 0, Ai 0, Ai 0, Ai 0])
 refine Gy 4 [(17, .agg (Ao x1)), (18, Ai x2), (19, Ai x3)] 1 (.ptr (some (h1.size, 0))) e1 H fun fr t H => ?_
 obtain ⟨h3, hx, A⟩ := A.s0 0 (Ao x1) [_, _, _, _, _, _, _, _, _, _, _, _, _, _]
 refine Ev hx H fun fr t H => ?_
 refine BT 2 [(3, Ai x3)] 7 H fun fr H => Az 21 _ _ H (fun fr => .of (Bs (by kernel_rfl) (A.GA 0 rfl (o := 0) (n := 14) ⟨Nat.le_of_ble_eq_true rfl, rfl⟩))) fun fr t H => ?_
 obtain ⟨⟨w5, x5⟩, hx, hm⟩ := bind_some hm
 obtain ⟨v1, h4, hr, hc⟩ := LY (av := [.agg (Ao x1)]) hx (A.cut 0)
 rcases hc with ⟨bx4w4, rx4w4_14, rx4w4_15, bx4w4_16, rx4w4_16_0, bx4w4_17, x4w4, rfl, rfl, A1⟩ | ⟨rfl, rfl, A1⟩
 ·replace A : HH g h4 [.obj bx4w4 (.cells none 2 [vs AE x4w4.c_.Ah, vs AE x4w4.c_.Aj, vs AJ x4w4.c_.Bl, .bool x4w4.c_.Ho, .bool x4w4.c_.BP, Ai x4w4.c_.Bm, .bool x4w4.c_.CC, Ai x4w4.c_.BD.DF, Ai x4w4.c_.BD.Bp, Ai x4w4.c_.HG, Ai x4w4.c_.B3, Ai x4w4.c_.Name, Ai x4w4.c_.Head, Ai x4w4.c_.Bd, AI rx4w4_14 x4w4.AZ.length, AI rx4w4_15 x4w4.Ac.length, .ptr (some (bx4w4_16, 0)), .ptr (some (bx4w4_17, 0))]), .AL rx4w4_14 136 (AL (eP AB) x4w4.AZ), .AL rx4w4_15 136 (AL (eP AB) x4w4.Ac), .obj bx4w4_16 (.cells none 2 [AI rx4w4_16_0 x4w4.Ad.l_.length, Ai x4w4.Ad.Ba]), .AL rx4w4_16_0 142 (AL (eP AK) x4w4.Ad.l_), .obj bx4w4_17 (.cells none 2 ([Ai x4w4.Ap.n_, Ai x4w4.Ap.Aq] ++ (Cl 257 (AA.int .i64) x4w4.Ap.BJ ++ []))), _] F := A.CL (n := 0) A1
  refine Ay 22 hr H fun fr t H => ?_
  refine AN 5 [(4, .ptr (some (bx4w4, 0))), (5, Ai x5)] H fun fr H => AQ (AG 10 (AF 3 [(27, .bool (x3 != 0))] H fun fr H => An 3 (fun fr' h' => h4 = h' ∧ Has fr' 75 [(4, .ptr (some (bx4w4, 0))), (30, .bool ((x3 != 0) || (x5 != 0)))]) ?_ ?_))
  ·cases hb : (x3 != 0 : Bool) with
   | true =>
    replace H := H.kn 27 hb
    exact AF 3 [(30, .bool true)] H fun fr H => AY H hb
   | false =>
    replace H := H.kn 27 hb
    exact AF 3 [(30, .bool (x5 != 0))] H fun fr H => AY H hb
  intro t fr h' hK
  obtain ⟨e, H⟩ := hK
  subst e
  refine AF 1 [(31, .bool ((x3 != 0) || (x5 != 0)))] H fun fr H => An 3 (fun fr' h' => h4 = h' ∧ Has fr' 75 [(4, .ptr (some (bx4w4, 0))), (34, .bool (((x3 != 0) || (x5 != 0)) || false))]) ?_ ?_
  ·cases hb : ((x3 != 0) || (x5 != 0) : Bool) with
   | true =>
    replace H := H.kn 31 hb
    exact AF 3 [(34, .bool true)] H fun fr H => AY H hb
   | false =>
    replace H := H.kn 31 hb
    exact AF 3 [(34, .bool false)] H fun fr H => AY H hb
  intro t fr h' hK
  obtain ⟨e, H⟩ := hK
  subst e
  refine BB id (Ak 34 H hm (fun hb hm H => ?_) fun hb hm H => ?_)
  ·refine AG 1 (AN 1 [(0, .bool false)] H fun fr H => AS ?_)
   obtain rfl := Aa hm
   refine ⟨.inl rfl, .bool false, rH H, ?_⟩
   replace A := A.d0
   exact ⟨rfl, A⟩
  refine Cm 11 id ?_
  obtain ⟨⟨x6, x7, x8, x9⟩, hx, hm⟩ := bind_some hm
  obtain ⟨v1, h5, hr, rfl, A1⟩ := Dk (av := [.ptr (some (bx4w4, 0)), .agg [.str ([97, 46, 111] : List UInt8), .str ([] : List UInt8), Ab 48, Ai 0, Ai 0, Ai 0, .str ([] : List UInt8), .str ([] : List UInt8), Ai 0, Ai 0, Ai 0, Ai 0, .slice none 0, .str ([] : List UInt8)], .ptr none]) hx (A.cut 6)
  replace A : HH g h5 [.obj bx4w4 (.cells none 2 [_, _, _, _, _, _, _, _, _, _, _, _, _, _, _, _, _, _]), .AL rx4w4_14 136 (AL (eP AB) x4w4.AZ), .AL rx4w4_15 136 (AL (eP AB) x4w4.Ac), .obj bx4w4_16 (.cells none 2 [AI rx4w4_16_0 x4w4.Ad.l_.length, Ai x4w4.Ad.Ba]), .AL rx4w4_16_0 142 (AL (eP AK) x4w4.Ad.l_), .obj bx4w4_17 (.cells none 2 ([Ai x9.n_, Ai x9.Aq] ++ (Cl 257 (AA.int .i64) x9.BJ ++ []))), _] F := A.CL (n := 6) A1
  refine BH 2 [] 38 hr H fun fr t H => ?_
  obtain ⟨h6, e2, A⟩ := A.pu (.cells none 2 [.str ([] : List UInt8), .str ([] : List UInt8), Ab 0, Ai 0, Ai 0, Ai 0, .str ([] : List UInt8), .str ([] : List UInt8), Ai 0, Ai 0, Ai 0, Ai 0, .slice none 0, .str ([] : List UInt8)])
  refine Gy 4 [(39, .agg (AD x6)), (40, Ai x7), (41, Ai x8)] 6 (.ptr (some (h5.size, 0))) e2 H fun fr t H => ?_
  obtain ⟨h7, hx, A⟩ := A.s0 0 (AD x6) [_, _, _, _, _, _, _, _, _, _, _, _, _, _]
  refine Ev hx H fun fr t H => ?_
  refine BT 2 [(7, Ai x7)] 11 H fun fr H => ?_
  replace A := A.k8 1 2 3 4 5 6 0 7
  obtain ⟨⟨x10, x11, x12, x13⟩, hx, hm⟩ := bind_some hm
  obtain ⟨v1, h8, hr, rfl, A1⟩ := Dk (av := [.ptr (some (bx4w4, 0)), .agg [.str ([97, 47, 98] : List UInt8), .str ([] : List UInt8), Ab 48, Ai 0, Ai 0, Ai 0, .str ([] : List UInt8), .str ([] : List UInt8), Ai 0, Ai 0, Ai 0, Ai 0, .slice none 0, .str ([] : List UInt8)], .ptr none]) hx (A.cut 6)
  replace A : HH g h8 [.obj bx4w4 (.cells none 2 [_, _, _, _, _, _, _, _, _, _, _, _, _, _, _, _, _, _]), .AL rx4w4_14 136 (AL (eP AB) x4w4.AZ), .AL rx4w4_15 136 (AL (eP AB) x4w4.Ac), .obj bx4w4_16 (.cells none 2 [AI rx4w4_16_0 x4w4.Ad.l_.length, Ai x4w4.Ad.Ba]), .AL rx4w4_16_0 142 (AL (eP AK) x4w4.Ad.l_), .obj bx4w4_17 (.cells none 2 ([Ai x13.n_, Ai x13.Aq] ++ (Cl 257 (AA.int .i64) x13.BJ ++ []))), _, _] F := A.CL (n := 6) A1
  refine BH 2 [] 45 hr H fun fr t H => ?_
  obtain ⟨h9, e3, A⟩ := A.pu (.cells none 2 [.str ([] : List UInt8), .str ([] : List UInt8), Ab 0, Ai 0, Ai 0, Ai 0, .str ([] : List UInt8), .str ([] : List UInt8), Ai 0, Ai 0, Ai 0, Ai 0, .slice none 0, .str ([] : List UInt8)])
  refine Gy 4 [(46, .agg (AD x10)), (47, Ai x11), (48, Ai x12)] 9 (.ptr (some (h8.size, 0))) e3 H fun fr t H => ?_
  obtain ⟨h10, hx, A⟩ := A.s0 0 (AD x10) [_, _, _, _, _, _, _, _, _, _, _, _, _, _]
  refine Ev hx H fun fr t H => ?_
  refine BT 2 [(10, Ai x11), (11, Ai x12)] 11 H fun fr H => ?_
  replace A := A.k9 1 2 3 4 5 6 0 7 8
  obtain ⟨⟨x14, x15, x16, x17⟩, hx, hm⟩ := bind_some hm
  obtain ⟨v1, h11, hr, rfl, A1⟩ := Dk (av := [.ptr (some (bx4w4, 0)), .agg [.str ([97] : List UInt8), .str ([] : List UInt8), Ab 48, Ai 0, Ai 0, Ai 0, .str ([] : List UInt8), .str ([] : List UInt8), Ai 0, Ai 0, Ai 0, Ai 0, .slice none 0, .str ([] : List UInt8)], .ptr none]) hx (A.cut 6)
  replace A : HH g h11 [.obj bx4w4 (.cells none 2 [_, _, _, _, _, _, _, _, _, _, _, _, _, _, _, _, _, _]), .AL rx4w4_14 136 (AL (eP AB) x4w4.AZ), .AL rx4w4_15 136 (AL (eP AB) x4w4.Ac), .obj bx4w4_16 (.cells none 2 [AI rx4w4_16_0 x4w4.Ad.l_.length, Ai x4w4.Ad.Ba]), .AL rx4w4_16_0 142 (AL (eP AK) x4w4.Ad.l_), .obj bx4w4_17 (.cells none 2 ([Ai x17.n_, Ai x17.Aq] ++ (Cl 257 (AA.int .i64) x17.BJ ++ []))), _, _, _] F := A.CL (n := 6) A1
  refine BH 2 [] 52 hr H fun fr t H => ?_
  obtain ⟨h12, e4, A⟩ := A.pu (.cells none 2 [.str ([] : List UInt8), .str ([] : List UInt8), Ab 0, Ai 0, Ai 0, Ai 0, .str ([] : List UInt8), .str ([] : List UInt8), Ai 0, Ai 0, Ai 0, Ai 0, .slice none 0, .str ([] : List UInt8)])
  refine Gy 4 [(53, .agg (AD x14)), (54, Ai x15), (55, Ai x16)] 12 (.ptr (some (h11.size, 0))) e4 H fun fr t H => ?_
  obtain ⟨h13, hx, A⟩ := A.s0 0 (AD x14) [_, _, _, _, _, _, _, _, _, _, _, _, _, _]
  refine Ev hx H fun fr t H => ?_
  refine BT 2 [(13, Ai x15)] 20 H fun fr H => AF 3 [(58, .bool (x7 == 1))] H fun fr H => An 3 (fun fr' h' => h13 = h' ∧ Has fr' 75 [(9, .ptr (some (h8.size, 0))), (11, Ai x12), (13, Ai x15), (61, .bool ((x7 == 1) && (x11 == 0)))]) ?_ ?_
  ·cases hb : (x7 == 1 : Bool) with
   | true =>
    replace H := H.kn 58 hb
    exact AF 3 [(61, .bool (x11 == 0))] H fun fr H => AY H hb
   | false =>
    replace H := H.kn 58 hb
    exact AF 3 [(61, .bool false)] H fun fr H => AY H hb
  intro t fr h' hK
  obtain ⟨e, H⟩ := hK
  subst e
  refine AF 1 [(62, .bool ((x7 == 1) && (x11 == 0)))] H fun fr H => An 3 (fun fr' h' => h13 = h' ∧ Has fr' 75 [(9, .ptr (some (h8.size, 0))), (13, Ai x15), (65, .bool (((x7 == 1) && (x11 == 0)) && (x12 == 0)))]) ?_ ?_
  ·cases hb : ((x7 == 1) && (x11 == 0) : Bool) with
   | true =>
    replace H := H.kn 62 hb
    exact AF 3 [(65, .bool (x12 == 0))] H fun fr H => AY H hb
   | false =>
    replace H := H.kn 62 hb
    exact AF 3 [(65, .bool false)] H fun fr H => AY H hb
  intro t fr h' hK
  obtain ⟨e, H⟩ := hK
  subst e
  refine AF 1 [(66, .bool (((x7 == 1) && (x11 == 0)) && (x12 == 0)))] H fun fr H => An 4 (fun fr' h' => h13 = h' ∧ Has fr' 75 [(13, Ai x15), (70, .bool ((((x7 == 1) && (x11 == 0)) && (x12 == 0)) && (x10.Name == ([98] : List UInt8))))]) ?_ ?_
  ·cases hb : (((x7 == 1) && (x11 == 0)) && (x12 == 0) : Bool) with
   | true =>
    replace H := H.kn 66 hb
    refine AR 1 [] 68 7 0 A H fun fr t H => ?_
    exact AF 2 [(70, .bool (x10.Name == ([98] : List UInt8)))] H fun fr H => AY H hb
   | false =>
    replace H := H.kn 66 hb
    exact AF 4 [(70, .bool false)] H fun fr H => AY H hb
  intro t fr h' hK
  obtain ⟨e, H⟩ := hK
  subst e
  refine AF 1 [(71, .bool ((((x7 == 1) && (x11 == 0)) && (x12 == 0)) && (x10.Name == ([98] : List UInt8))))] H fun fr H => An 3 (fun fr' h' => h13 = h' ∧ Has fr' 75 [(74, .bool (((((x7 == 1) && (x11 == 0)) && (x12 == 0)) && (x10.Name == ([98] : List UInt8))) && (x15 == 8)))]) ?_ ?_
  ·cases hb : ((((x7 == 1) && (x11 == 0)) && (x12 == 0)) && (x10.Name == ([98] : List UInt8)) : Bool) with
   | true =>
    replace H := H.kn 71 hb
    exact AF 3 [(74, .bool (x15 == 8))] H fun fr H => AY H hb
   | false =>
    replace H := H.kn 71 hb
    exact AF 3 [(74, .bool false)] H fun fr H => AY H hb
  intro t fr h' hK
  obtain ⟨e, H⟩ := hK
  subst e
  refine AN 1 [(0, .bool (((((x7 == 1) && (x11 == 0)) && (x12 == 0)) && (x10.Name == ([98] : List UInt8))) && (x15 == 8)))] H fun fr H => AS ?_
  obtain rfl := Aa hm
  refine ⟨.inl rfl, .bool (((((x7 == 1) && (x11 == 0)) && (x12 == 0)) && (x10.Name == ([98] : List UInt8))) && (x15 == 8)), rH H, ?_⟩
  replace A := A.d0
  exact ⟨rfl, A⟩
 replace A := A.EV A1
 refine Ay 22 hr H fun fr t H => ?_
 refine AN 5 [(4, .ptr none), (5, Ai x5)] H fun fr H => AQ (AG 10 (AF 3 [(27, .bool (x3 != 0))] H fun fr H => An 3 (fun fr' h' => h4 = h' ∧ Has fr' 75 [(4, .ptr none), (30, .bool ((x3 != 0) || (x5 != 0)))]) ?_ ?_))
 ·cases hb : (x3 != 0 : Bool) with
  | true =>
   replace H := H.kn 27 hb
   exact AF 3 [(30, .bool true)] H fun fr H => AY H hb
  | false =>
   replace H := H.kn 27 hb
   exact AF 3 [(30, .bool (x5 != 0))] H fun fr H => AY H hb
 intro t fr h' hK
 obtain ⟨e, H⟩ := hK
 subst e
 refine AF 1 [(31, .bool ((x3 != 0) || (x5 != 0)))] H fun fr H => An 3 (fun fr' h' => h4 = h' ∧ Has fr' 75 [(4, .ptr none), (34, .bool (((x3 != 0) || (x5 != 0)) || true))]) ?_ ?_
 ·cases hb : ((x3 != 0) || (x5 != 0) : Bool) with
  | true =>
   replace H := H.kn 31 hb
   exact AF 3 [(34, .bool true)] H fun fr H => AY H hb
  | false =>
   replace H := H.kn 31 hb
   exact AF 3 [(34, .bool true)] H fun fr H => AY H hb
 intro t fr h' hK
 obtain ⟨e, H⟩ := hK
 subst e
 refine BB id (Ak 34 H hm (fun hb hm H => ?_) fun hb hm H => ?_)
 ·refine AG 1 (AN 1 [(0, .bool false)] H fun fr H => AS ?_)
  obtain rfl := Aa hm
  refine ⟨.inl rfl, .bool false, rH H, ?_⟩
  replace A := A.d0
  exact ⟨rfl, A⟩
 refine Cm 11 id ?_
 obtain ⟨⟨x18, x19, x20⟩, hx, hm⟩ := bind_some hm
 obtain ⟨v1, h14, hr, rfl, A1⟩ := Es (av := [.ptr none, .agg [.str ([97, 46, 111] : List UInt8), .str ([] : List UInt8), Ab 48, Ai 0, Ai 0, Ai 0, .str ([] : List UInt8), .str ([] : List UInt8), Ai 0, Ai 0, Ai 0, Ai 0, .slice none 0, .str ([] : List UInt8)], .ptr none]) hx (A.cut 0)
 replace A := A.EV A1
 refine BH 2 [] 38 hr H fun fr t H => ?_
 obtain ⟨h15, e5, A⟩ := A.pu (.cells none 2 [.str ([] : List UInt8), .str ([] : List UInt8), Ab 0, Ai 0, Ai 0, Ai 0, .str ([] : List UInt8), .str ([] : List UInt8), Ai 0, Ai 0, Ai 0, Ai 0, .slice none 0, .str ([] : List UInt8)])
 refine Gy 4 [(39, .agg (AD x18)), (40, Ai x19), (41, Ai x20)] 6 (.ptr (some (h14.size, 0))) e5 H fun fr t H => ?_
 obtain ⟨h16, hx, A⟩ := A.s0 0 (AD x18) [_, _, _, _, _, _, _, _, _, _, _, _, _, _]
 refine Ev hx H fun fr t H => ?_
 refine BT 2 [(7, Ai x19)] 11 H fun fr H => ?_
 obtain ⟨⟨x21, x22, x23⟩, hx, hm⟩ := bind_some hm
 obtain ⟨v1, h17, hr, rfl, A1⟩ := Es (av := [.ptr none, .agg [.str ([97, 47, 98] : List UInt8), .str ([] : List UInt8), Ab 48, Ai 0, Ai 0, Ai 0, .str ([] : List UInt8), .str ([] : List UInt8), Ai 0, Ai 0, Ai 0, Ai 0, .slice none 0, .str ([] : List UInt8)], .ptr none]) hx (A.cut 0)
 replace A := A.EV A1
 refine BH 2 [] 45 hr H fun fr t H => ?_
 obtain ⟨h18, e6, A⟩ := A.pu (.cells none 2 [.str ([] : List UInt8), .str ([] : List UInt8), Ab 0, Ai 0, Ai 0, Ai 0, .str ([] : List UInt8), .str ([] : List UInt8), Ai 0, Ai 0, Ai 0, Ai 0, .slice none 0, .str ([] : List UInt8)])
 refine Gy 4 [(46, .agg (AD x21)), (47, Ai x22), (48, Ai x23)] 9 (.ptr (some (h17.size, 0))) e6 H fun fr t H => ?_
 obtain ⟨h19, hx, A⟩ := A.s0 0 (AD x21) [_, _, _, _, _, _, _, _, _, _, _, _, _, _]
 refine Ev hx H fun fr t H => ?_
 refine BT 2 [(10, Ai x22), (11, Ai x23)] 11 H fun fr H => ?_
 obtain ⟨⟨x24, x25, x26⟩, hx, hm⟩ := bind_some hm
 obtain ⟨v1, h20, hr, rfl, A1⟩ := Es (av := [.ptr none, .agg [.str ([97] : List UInt8), .str ([] : List UInt8), Ab 48, Ai 0, Ai 0, Ai 0, .str ([] : List UInt8), .str ([] : List UInt8), Ai 0, Ai 0, Ai 0, Ai 0, .slice none 0, .str ([] : List UInt8)], .ptr none]) hx (A.cut 0)
 replace A := A.EV A1
 refine BH 2 [] 52 hr H fun fr t H => ?_
 obtain ⟨h21, e7, A⟩ := A.pu (.cells none 2 [.str ([] : List UInt8), .str ([] : List UInt8), Ab 0, Ai 0, Ai 0, Ai 0, .str ([] : List UInt8), .str ([] : List UInt8), Ai 0, Ai 0, Ai 0, Ai 0, .slice none 0, .str ([] : List UInt8)])
 refine Gy 4 [(53, .agg (AD x24)), (54, Ai x25), (55, Ai x26)] 12 (.ptr (some (h20.size, 0))) e7 H fun fr t H => ?_
 obtain ⟨h22, hx, A⟩ := A.s0 0 (AD x24) [_, _, _, _, _, _, _, _, _, _, _, _, _, _]
 refine Ev hx H fun fr t H => ?_
 refine BT 2 [(13, Ai x25)] 20 H fun fr H => AF 3 [(58, .bool (x19 == 1))] H fun fr H => An 3 (fun fr' h' => h22 = h' ∧ Has fr' 75 [(9, .ptr (some (h17.size, 0))), (11, Ai x23), (13, Ai x25), (61, .bool ((x19 == 1) && (x22 == 0)))]) ?_ ?_
 ·cases hb : (x19 == 1 : Bool) with
  | true =>
   replace H := H.kn 58 hb
   exact AF 3 [(61, .bool (x22 == 0))] H fun fr H => AY H hb
  | false =>
   replace H := H.kn 58 hb
   exact AF 3 [(61, .bool false)] H fun fr H => AY H hb
 intro t fr h' hK
 obtain ⟨e, H⟩ := hK
 subst e
 refine AF 1 [(62, .bool ((x19 == 1) && (x22 == 0)))] H fun fr H => An 3 (fun fr' h' => h22 = h' ∧ Has fr' 75 [(9, .ptr (some (h17.size, 0))), (13, Ai x25), (65, .bool (((x19 == 1) && (x22 == 0)) && (x23 == 0)))]) ?_ ?_
 ·cases hb : ((x19 == 1) && (x22 == 0) : Bool) with
  | true =>
   replace H := H.kn 62 hb
   exact AF 3 [(65, .bool (x23 == 0))] H fun fr H => AY H hb
  | false =>
   replace H := H.kn 62 hb
   exact AF 3 [(65, .bool false)] H fun fr H => AY H hb
 intro t fr h' hK
 obtain ⟨e, H⟩ := hK
 subst e
 refine AF 1 [(66, .bool (((x19 == 1) && (x22 == 0)) && (x23 == 0)))] H fun fr H => An 4 (fun fr' h' => h22 = h' ∧ Has fr' 75 [(13, Ai x25), (70, .bool ((((x19 == 1) && (x22 == 0)) && (x23 == 0)) && (x21.Name == ([98] : List UInt8))))]) ?_ ?_
 ·cases hb : (((x19 == 1) && (x22 == 0)) && (x23 == 0) : Bool) with
  | true =>
   replace H := H.kn 66 hb
   refine AR 1 [] 68 1 0 A H fun fr t H => ?_
   exact AF 2 [(70, .bool (x21.Name == ([98] : List UInt8)))] H fun fr H => AY H hb
  | false =>
   replace H := H.kn 66 hb
   exact AF 4 [(70, .bool false)] H fun fr H => AY H hb
 intro t fr h' hK
 obtain ⟨e, H⟩ := hK
 subst e
 refine AF 1 [(71, .bool ((((x19 == 1) && (x22 == 0)) && (x23 == 0)) && (x21.Name == ([98] : List UInt8))))] H fun fr H => An 3 (fun fr' h' => h22 = h' ∧ Has fr' 75 [(74, .bool (((((x19 == 1) && (x22 == 0)) && (x23 == 0)) && (x21.Name == ([98] : List UInt8))) && (x25 == 8)))]) ?_ ?_
 ·cases hb : ((((x19 == 1) && (x22 == 0)) && (x23 == 0)) && (x21.Name == ([98] : List UInt8)) : Bool) with
  | true =>
   replace H := H.kn 71 hb
   exact AF 3 [(74, .bool (x25 == 8))] H fun fr H => AY H hb
  | false =>
   replace H := H.kn 71 hb
   exact AF 3 [(74, .bool false)] H fun fr H => AY H hb
 intro t fr h' hK
 obtain ⟨e, H⟩ := hK
 subst e
 refine AN 1 [(0, .bool (((((x19 == 1) && (x22 == 0)) && (x23 == 0)) && (x21.Name == ([98] : List UInt8))) && (x25 == 8)))] H fun fr H => AS ?_
 obtain rfl := Aa hm
 refine ⟨.inl rfl, .bool (((((x19 == 1) && (x22 == 0)) && (x23 == 0)) && (x21.Name == ([98] : List UInt8))) && (x25 == 8)), rH H, ?_⟩
 replace A := A.d0
 exact ⟨rfl, A⟩
def CG (p0 : AV) (s : Int) : Option ((Int) ⊕ ((Unit) ⊕ (Int))) :=
 match s with
 | x6 => Ae (decide (x6 < (p0.Extra.length : Int))) ((HR p0.Extra x6).bind fun x8 => (Df x8).bind fun x9 => (Ae ((!x9) || (x8.Value == ([] : List UInt8))) (some true) ((Ee x8.Key).bind fun x11 => some x11) : Option (Bool)).bind fun x10 => (Ae x10 (some true) ((Ae (decide (x6 > 0)) ((HR p0.Extra (IntKind.i64.wrap (x6 - 1))).bind fun x14 => some (!(Op.bytesLess x14.Key x8.Key))) (some false) : Option (Bool)).bind fun x13 => some x13) : Option (Bool)).bind fun x12 => Ae x12 (some (.inr (.inr (2 : Int)))) (some (.inl (IntKind.i64.wrap (x6 + 1))))) (some (.inr (.inl ())))
def C7 (p0 : AV) : Option (Int) :=
 (CS p0.Name).bind fun x1 => Ae (!(x1 == p0.Name)) (some (2 : Int)) ((CS p0.Bf).bind fun x2 => Ae (!(x2 == p0.Bf)) (some (2 : Int)) ((CS p0.CB).bind fun x3 => (Ae (!(x3 == p0.CB)) (some true) ((CS p0.Ca).bind fun x5 => some (!(x5 == p0.Ca))) : Option (Bool)).bind fun x4 => Ae (x4 || (p0.Name == ([] : List UInt8))) (some (2 : Int)) ((loop (CG p0) (0 : Int)).bind fun o1 => (match o1 with | .inl _ => (Ae ((((((((((decide (p0.Dm < 0)) || (decide (p0.Dm > 9007199254740991))) || (decide (p0.Eb < 0))) || (decide (p0.Eb > 9007199254740991))) || (decide (p0.Mode < 0))) || (decide (p0.Mode ≥ 2097152))) || (decide (p0.CY < 0))) || (decide (p0.CY ≥ 2097152))) || (decide (p0.EX < 0))) || (decide (p0.EX ≥ 2097152))) (some true) ((Ek p0.Time.DF p0.Time.Bp).bind fun x16 => some (!x16)) : Option (Bool)).bind fun x15 => Ae x15 (some (6 : Int)) (some (0 : Int)) | .inr x7 => some x7))))
theorem HE {p0 q0} (hm : C7 p0 = some q0) (A : HH g h [] F) (hc : BI (cfg.still 14) av = [.agg (AD p0)] := by kernel_rfl) : ∃ v h', BL cfg g h 14 av v h' ∧ v = Ai q0 ∧ HH g h' [] F := by
 refine D5 142 [.tmp 2] hc ?_
 clear hc
 unfold C7 at hm
 refine bg 142 [(0, .agg (AD p0))] fun fr H => ?_
 refine AG 2 ?_
 obtain ⟨h1, e1, A⟩ := A.pu (.cells none 2 (AD p0))
 refine BC 1 (.ptr (some (h.size, 0))) e1 H fun fr t H => ?_
 refine AN 1 [] H fun fr H => AQ (AQ (Jk 1 35 [(0, []), (1, []), (3, []), (4, []), (2, [4]), (5, []), (6, []), (7, []), (8, []), (10, []), (11, []), (9, [11]), (12, []), (13, []), (14, []), (15, []), (16, []), (18, []), (19, []), (17, [19]), (20, []), (21, []), (22, []), (23, []), (24, []), (26, []), (27, []), (25, [27]), (28, []), (29, []), (30, []), (31, []), (32, []), (33, []), (34, [])] ?_))
 refine AF 1 [(6, .ptr (some (h.size, 0)))] H fun fr H => B0 7 (.str p0.Name) h1 [(1, h.size)] (g.BU) H (fun fr => .of (Dj (by kernel_rfl) (A.l1 0 0))) (fun fr H => ?_)
 refine AF 1 [(9, .ptr (some (h.size, 0)))] H fun fr H => B0 10 (.str p0.Name) h1 [(4, h.size), (1, h.size)] (g.BU) H (fun fr => .of (Dj (by kernel_rfl) (A.l1 0 0))) (fun fr H => ?_)
 have A1 := A.Gm 0 (pr := [h.size]) (.cons 0 rfl (by simp [Ck.ids]) .nil)
 obtain ⟨x1, hx, hm⟩ := bind_some hm
 obtain ⟨v1, h2, hr, rfl, A1⟩ := Ed (av := [.str p0.Name]) hx A1
 replace A : HH g h2 [.obj h.size (.cells none 2 (AD p0))] F := A.OS (n := 0) A1
 refine B0 8 (.str x1) h2 [(4, h.size), (1, h.size)] (h.size :: g.BU) H (fun fr => Steps.call (by kernel_rfl) hr) (fun fr H => ?_)
 refine AF 2 [(12, .bool (!(x1 == p0.Name)))] H fun fr H => ?_
 rcases AU hm with ⟨hb, hm⟩ | ⟨hb, hm⟩
 ·replace H := H.kn 12 hb
  refine AF 4 [(14, .tuple []), (17, .tuple [])] H fun fr H => I7 [(1, .ptr (some (h.size, 0))), (12, .bool true), (15, .tuple []), (17, .tuple [])] H (fun fr => by kernel_rfl) ?_
  intro fr H
  refine AF 7 [(20, .bool true), (22, .tuple []), (25, .tuple [])] H fun fr H => I7 [(1, .ptr (some (h.size, 0))), (20, .bool true), (23, .tuple []), (25, .tuple [])] H (fun fr => by kernel_rfl) ?_
  intro fr H
  refine AF 7 [(28, .bool true), (30, .tuple []), (33, .tuple [])] H fun fr H => I7 [(1, .ptr (some (h.size, 0))), (28, .bool true), (31, .tuple []), (33, .tuple [])] H (fun fr => by kernel_rfl) ?_
  intro fr H
  refine AN 7 [(40, .bool true)] H fun fr H => Dd (x := .tmp 40) (by kernel_rfl) H (fun fr => by kernel_rfl) ?_
  refine AG 1 (AN 1 [(2, Ai 2)] H fun fr H => AS ?_)
  obtain rfl := Aa hm
  refine ⟨.inl rfl, Ai 2, rH H, ?_⟩
  replace A := A.d0
  exact ⟨rfl, A⟩
 replace H := H.kn 12 hb
 refine AF 1 [(13, .ptr (some (h.size, 1)))] H fun fr H => B0 14 (.str p0.Bf) h2 [(8, h.size), (4, h.size), (1, h.size)] (g.BU) H (fun fr => .of (Dj (by kernel_rfl) (A.l1 0 1))) (fun fr H => ?_)
 refine AF 1 [(16, .ptr (some (h.size, 1)))] H fun fr H => B0 17 (.str p0.Bf) h2 [(11, h.size), (8, h.size), (4, h.size), (1, h.size)] (g.BU) H (fun fr => .of (Dj (by kernel_rfl) (A.l1 0 1))) (fun fr H => ?_)
 have A1 := A.Gm 0 (pr := [h.size]) (.cons 0 rfl (by simp [Ck.ids]) .nil)
 obtain ⟨x2, hx, hm⟩ := bind_some hm
 obtain ⟨v1, h3, hr, rfl, A1⟩ := Ed (av := [.str p0.Bf]) hx A1
 replace A := A.VX A1
 refine B0 15 (.str x2) h3 [(11, h.size), (8, h.size), (4, h.size), (1, h.size)] (h.size :: g.BU) H (fun fr => Steps.call (by kernel_rfl) hr) (fun fr H => ?_)
 refine AF 3 [(20, .bool (!(x2 == p0.Bf)))] H fun fr H => ?_
 rcases AU hm with ⟨hb, hm⟩ | ⟨hb, hm⟩
 ·replace H := H.kn 20 hb
  refine AF 4 [(22, .tuple []), (25, .tuple [])] H fun fr H => I7 [(1, .ptr (some (h.size, 0))), (20, .bool true), (23, .tuple []), (25, .tuple [])] H (fun fr => by kernel_rfl) ?_
  intro fr H
  refine AF 7 [(28, .bool true), (30, .tuple []), (33, .tuple [])] H fun fr H => I7 [(1, .ptr (some (h.size, 0))), (28, .bool true), (31, .tuple []), (33, .tuple [])] H (fun fr => by kernel_rfl) ?_
  intro fr H
  refine AN 7 [(40, .bool true)] H fun fr H => Dd (x := .tmp 40) (by kernel_rfl) H (fun fr => by kernel_rfl) ?_
  refine AG 1 (AN 1 [(2, Ai 2)] H fun fr H => AS ?_)
  obtain rfl := Aa hm
  refine ⟨.inl rfl, Ai 2, rH H, ?_⟩
  replace A := A.d0
  exact ⟨rfl, A⟩
 replace H := H.kn 20 hb
 refine AF 1 [(21, .ptr (some (h.size, 6)))] H fun fr H => B0 22 (.str p0.CB) h3 [(16, h.size), (11, h.size), (8, h.size), (4, h.size), (1, h.size)] (g.BU) H (fun fr => .of (Dj (by kernel_rfl) (A.l1 0 6))) (fun fr H => ?_)
 refine AF 1 [(24, .ptr (some (h.size, 6)))] H fun fr H => B0 25 (.str p0.CB) h3 [(19, h.size), (16, h.size), (11, h.size), (8, h.size), (4, h.size), (1, h.size)] (g.BU) H (fun fr => .of (Dj (by kernel_rfl) (A.l1 0 6))) (fun fr H => ?_)
 have A1 := A.Gm 0 (pr := [h.size]) (.cons 0 rfl (by simp [Ck.ids]) .nil)
 obtain ⟨x3, hx, hm⟩ := bind_some hm
 obtain ⟨v1, h4, hr, rfl, A1⟩ := Ed (av := [.str p0.CB]) hx A1
 replace A := A.VX A1
 refine B0 23 (.str x3) h4 [(19, h.size), (16, h.size), (11, h.size), (8, h.size), (4, h.size), (1, h.size)] (h.size :: g.BU) H (fun fr => Steps.call (by kernel_rfl) hr) (fun fr H => ?_)
 refine AF 3 [(28, .bool (!(x3 == p0.CB)))] H fun fr H => ?_
 obtain ⟨x4, ho, hm⟩ := bind_some hm
 refine An 7 (fun fr' h' => Has fr' 142 [(1, .ptr (some (h.size, 0))), (35, .bool x4)] ∧ HH g h' [.obj h.size (.cells none 2 (AD p0))] F) ?_ ?_
 ·rcases AU ho with ⟨hb, hm⟩ | ⟨hb, hm⟩
  ·replace H := H.kn 28 hb
   refine AF 4 [(30, .tuple []), (33, .tuple [])] H fun fr H => I7 [(1, .ptr (some (h.size, 0))), (28, .bool true), (31, .tuple []), (33, .tuple [])] H (fun fr => by kernel_rfl) ?_
   intro fr H
   refine AF 2 [(35, .bool true)] H fun fr H => ?_
   obtain rfl := Aa hm
   exact at_nil ⟨H.ls, A⟩
  replace H := H.kn 28 hb
  refine AF 1 [(29, .ptr (some (h.size, 7)))] H fun fr H => B0 30 (.str p0.Ca) h4 [(24, h.size), (19, h.size), (16, h.size), (11, h.size), (8, h.size), (4, h.size), (1, h.size)] (g.BU) H (fun fr => .of (Dj (by kernel_rfl) (A.l1 0 7))) (fun fr H => ?_)
  refine AF 1 [(32, .ptr (some (h.size, 7)))] H fun fr H => B0 33 (.str p0.Ca) h4 [(27, h.size), (24, h.size), (19, h.size), (16, h.size), (11, h.size), (8, h.size), (4, h.size), (1, h.size)] (g.BU) H (fun fr => .of (Dj (by kernel_rfl) (A.l1 0 7))) (fun fr H => ?_)
  have A1 := A.Gm 0 (pr := [h.size]) (.cons 0 rfl (by simp [Ck.ids]) .nil)
  obtain ⟨x5, hx, hm⟩ := bind_some hm
  obtain ⟨v1, h6, hr, rfl, A1⟩ := Ed (av := [.str p0.Ca]) hx A1
  replace A := A.VX A1
  refine B0 31 (.str x5) h6 [(27, h.size), (24, h.size), (19, h.size), (16, h.size), (11, h.size), (8, h.size), (4, h.size), (1, h.size)] (h.size :: g.BU) H (fun fr => Steps.call (by kernel_rfl) hr) (fun fr H => ?_)
  refine AF 2 [(35, .bool (!(x5 == p0.Ca)))] H fun fr H => ?_
  obtain rfl := Aa hm
  exact at_nil ⟨H.ls, A⟩
 clear A
 intro t fr h5 hK
 obtain ⟨H, A⟩ := hK
 refine AF 1 [(36, .bool x4)] H fun fr H => An 4 (fun fr' h' => h5 = h' ∧ Has fr' 142 [(1, .ptr (some (h.size, 0))), (40, .bool (x4 || (p0.Name == ([] : List UInt8))))]) ?_ ?_
 ·cases hb : (x4 : Bool) with
  | true =>
   replace H := H.kn 36 hb
   exact AF 4 [(40, .bool true)] H fun fr H => AY H hb
  | false =>
   replace H := H.kn 36 hb
   refine AR 1 [] 38 0 0 A H fun fr t H => ?_
   exact AF 2 [(40, .bool (p0.Name == ([] : List UInt8)))] H fun fr H => AY H hb
 intro t fr h' hK
 obtain ⟨e, H⟩ := hK
 subst e
 refine BB id (Ak 40 H hm (fun hb hm H => ?_) fun hb hm H => ?_)
 ·refine AG 1 (AN 1 [(2, Ai 2)] H fun fr H => AS ?_)
  obtain rfl := Aa hm
  refine ⟨.inl rfl, Ai 2, rH H, ?_⟩
  replace A := A.d0
  exact ⟨rfl, A⟩
 refine Be id (AQ (AG 1 (AN 1 [(3, Ai 0)] H fun fr H => AX (id := 0) (by kernel_rfl) ?_)))
 obtain ⟨o1, ho, hm⟩ := bind_some hm
 refine BM (Q' := fun e fr' h' => (e = .exit 0 ∧ .inl () = o1 ∧ Has fr' 142 [(1, .ptr (some (h.size, 0)))] ∧ HH g h' [.obj h.size (.cells none 2 (AD p0))] F) ∨ (∃ x7, e = .ret ∧ .inr x7 = o1 ∧ Has fr' 142 [(2, Ai x7)] ∧ HH g h' [.obj h.size (.cells none 2 (AD p0))] F) ∨ False) ?_ ?_
 ·refine B8 (by kernel_rfl) (fun (s : Int) fr' h' => ∃ x6, x6 = s ∧ Has fr' 142 [(1, .ptr (some (h.size, 0))), (3, Ai x6)] ∧ HH g h' [.obj h.size (.cells none 2 (AD p0))] F) ho ⟨_, rfl, H.ls, A⟩ ?_
  clear ho hm H A
  intro s q fr h7 hI hm
  obtain ⟨x6, rfl, H, A⟩ := hI
  unfold CG at hm
  refine AQ (AG 5 (AR 2 [(41, Ai x6)] 43 0 12 A H fun fr t H => ?_))
  refine AN 2 [(45, .bool (decide (x6 < (p0.Extra.length : Int))))] H fun fr H => Ak 45 H hm (fun hb hm H => ?_) fun hb hm H => ?_
  ·refine Be id (AQ (AX (id := 1) (by kernel_rfl) ?_))
   refine AG 7 (AR 1 [] 49 0 12 A H fun fr t H => ?_)
   obtain ⟨x8, hx, hm⟩ := bind_some hm
   refine As 1 [] 51 (.A7 [.str x8.Key, .str x8.Value]) h7 H (fun fr => .of (I3 (e := Af) (x := x8) Bt (by decide) (by kernel_rfl) hx)) fun fr t H => ?_
   refine Az 52 (.agg [.str x8.Key, .str x8.Value]) h7 H (fun fr => .of (IQ (by kernel_rfl))) fun fr t H => ?_
   obtain ⟨h8, e2, A⟩ := A.pu (.cells none 2 [.str ([] : List UInt8), .str ([] : List UInt8)])
   refine BC 4 (.ptr (some (h7.size, 0))) e2 H fun fr t H => ?_
   obtain ⟨h9, hx, A⟩ := A.s0 0 [.str x8.Key, .str x8.Value] [_, _]
   refine Ev hx H fun fr t H => ?_
   refine BB id (AQ (EZ 7 29 ?_))
   refine Az 53 _ _ H (fun fr => .of (Bs (by kernel_rfl) (A.GA 0 rfl (o := 0) (n := 2) ⟨Nat.le_of_ble_eq_true rfl, rfl⟩))) fun fr t H => ?_
   obtain ⟨x9, hx, hm⟩ := bind_some hm
   obtain ⟨v1, h10, hr, rfl, A1⟩ := KO (av := [.agg [.str x8.Key, .str x8.Value]]) hx (A.cut 0)
   replace A := A.EV A1
   refine Ay 54 hr H fun fr t H => ?_
   refine AF 2 [(56, .bool (!x9))] H fun fr H => An 4 (fun fr' h' => h10 = h' ∧ Has fr' 142 [(1, .ptr (some (h.size, 0))), (3, Ai x6), (4, .ptr (some (h7.size, 0))), (60, .bool ((!x9) || (x8.Value == ([] : List UInt8))))]) ?_ ?_
   ·cases hb : (!x9 : Bool) with
    | true =>
     replace H := H.kn 56 hb
     exact AF 4 [(60, .bool true)] H fun fr H => AY H hb
    | false =>
     replace H := H.kn 56 hb
     refine AR 1 [] 58 0 1 A H fun fr t H => ?_
     exact AF 2 [(60, .bool (x8.Value == ([] : List UInt8)))] H fun fr H => AY H hb
   intro t fr h' hK
   obtain ⟨e, H⟩ := hK
   subst e
   refine AF 1 [(61, .bool ((!x9) || (x8.Value == ([] : List UInt8))))] H fun fr H => ?_
   obtain ⟨x10, ho, hm⟩ := bind_some hm
   refine An 4 (fun fr' h' => Has fr' 142 [(1, .ptr (some (h.size, 0))), (3, Ai x6), (4, .ptr (some (h7.size, 0))), (65, .bool x10)] ∧ HH g h' [.obj h7.size (.cells none 2 [.str x8.Key, .str x8.Value]), .obj h.size (.cells none 2 (AD p0))] F) ?_ ?_
   ·rcases AU ho with ⟨hb, hm⟩ | ⟨hb, hm⟩
    ·replace H := H.kn 61 hb
     refine AF 4 [(65, .bool true)] H fun fr H => ?_
     obtain rfl := Aa hm
     exact at_nil ⟨H.ls, A⟩
    replace H := H.kn 61 hb
    refine AR 1 [] 63 0 0 A H fun fr t H => ?_
    obtain ⟨x11, hx, hm⟩ := bind_some hm
    obtain ⟨v1, h12, hr, rfl, A1⟩ := KN (av := [.str x8.Key]) hx (A.cut 0)
    replace A := A.EV A1
    refine Ay 64 hr H fun fr t H => ?_
    refine AF 1 [(65, .bool x11)] H fun fr H => ?_
    obtain rfl := Aa hm
    exact at_nil ⟨H.ls, A⟩
   clear A
   intro t fr h11 hK
   obtain ⟨H, A⟩ := hK
   refine AF 1 [(66, .bool x10)] H fun fr H => ?_
   obtain ⟨x12, ho, hm⟩ := bind_some hm
   refine An 15 (fun fr' h' => Has fr' 142 [(1, .ptr (some (h.size, 0))), (3, Ai x6), (81, .bool x12)] ∧ HH g h' [.obj h7.size (.cells none 2 [.str x8.Key, .str x8.Value]), .obj h.size (.cells none 2 (AD p0))] F) ?_ ?_
   ·rcases AU ho with ⟨hb, hm⟩ | ⟨hb, hm⟩
    ·replace H := H.kn 66 hb
     refine AF 15 [(81, .bool true)] H fun fr H => ?_
     obtain rfl := Aa hm
     exact at_nil ⟨H.ls, A⟩
    replace H := H.kn 66 hb
    refine AF 3 [(69, .bool (decide (x6 > 0)))] H fun fr H => ?_
    obtain ⟨x13, ho, hm⟩ := bind_some hm
    refine An 11 (fun fr' h' => Has fr' 142 [(1, .ptr (some (h.size, 0))), (3, Ai x6), (66, .bool false), (80, .bool x13)] ∧ HH g h' [.obj h7.size (.cells none 2 [.str x8.Key, .str x8.Value]), .obj h.size (.cells none 2 (AD p0))] F) ?_ ?_
    ·rcases AU ho with ⟨hb, hm⟩ | ⟨hb, hm⟩
     ·replace H := H.kn 69 hb
      refine AR 1 [] 71 1 12 A H fun fr t H => ?_
      obtain ⟨x14, hx, hm⟩ := bind_some hm
      refine As 2 [] 74 (.A7 [.str x14.Key, .str x14.Value]) h11 H (fun fr => .of (I3 (e := Af) (x := x14) Bt (by decide) (by kernel_rfl) hx)) fun fr t H => ?_
      refine As 1 [] 76 (.str x14.Key) h11 H (fun fr => .of (IQ (by kernel_rfl))) fun fr t H => ?_
      refine AR 1 [] 78 0 0 A H fun fr t H => ?_
      refine AF 2 [(80, .bool (!(Op.bytesLess x14.Key x8.Key)))] H fun fr H => ?_
      obtain rfl := Aa hm
      exact at_nil ⟨H.ls, A⟩
     replace H := H.kn 69 hb
     refine AF 11 [(80, .bool false)] H fun fr H => ?_
     obtain rfl := Aa hm
     exact at_nil ⟨H.ls, A⟩
    clear A
    intro t fr h14 hK
    obtain ⟨H, A⟩ := hK
    refine AF 1 [(81, .bool x13)] H fun fr H => ?_
    obtain rfl := Aa hm
    exact at_nil ⟨H.ls, A⟩
   clear A
   intro t fr h13 hK
   obtain ⟨H, A⟩ := hK
   refine BB id (Ak 81 H hm (fun hb hm H => ?_) fun hb hm H => ?_)
   ·refine AG 1 (AN 1 [(2, Ai 2)] H fun fr H => AS ?_)
    replace A := A.k1 1
    exact nr hm fun e => Or.inr (.inl ⟨_, rfl, e, H.ls, A⟩)
   refine FH 3 id (Bi 3 [(1, .ptr (some (h.size, 0))), (3, Ai (IntKind.i64.wrap (x6 + 1)))] H fun fr H => at_nil ?_)
   replace A := A.k1 1
   exact nx hm ⟨_, rfl, H.ls, A⟩
  refine Bn (i := 0) (by kernel_rfl) ?_
  exact nr hm fun e => .inl ⟨rfl, e, H.ls, A⟩
 clear ho
 clear A
 intro e fr h15 hQ
 rcases hQ with ⟨rfl, rfl, H, A⟩ | ⟨x7, rfl, rfl, H, A⟩ | hF
 ·show AW _ _ _ _ _ _ _
  refine AG 1 (AN 1 [(5, Ai 9007199254740991)] H fun fr H => AQ (AG 60 (AR 1 [] 83 0 4 A H fun fr t H => ?_)))
  refine AF 2 [(85, .bool (decide (p0.Dm < 0)))] H fun fr H => An 5 (fun fr' h' => h15 = h' ∧ Has fr' 142 [(1, .ptr (some (h.size, 0))), (5, Ai 9007199254740991), (90, .bool ((decide (p0.Dm < 0)) || (decide (p0.Dm > 9007199254740991))))]) ?_ ?_
  ·cases hb : (decide (p0.Dm < 0) : Bool) with
   | true =>
    replace H := H.kn 85 hb
    exact AF 5 [(90, .bool true)] H fun fr H => AY H hb
   | false =>
    replace H := H.kn 85 hb
    refine AR 1 [] 87 0 4 A H fun fr t H => ?_
    exact AF 3 [(90, .bool (decide (p0.Dm > 9007199254740991)))] H fun fr H => AY H hb
  intro t fr h' hK
  obtain ⟨e, H⟩ := hK
  subst e
  refine AF 1 [(91, .bool ((decide (p0.Dm < 0)) || (decide (p0.Dm > 9007199254740991))))] H fun fr H => An 4 (fun fr' h' => h15 = h' ∧ Has fr' 142 [(1, .ptr (some (h.size, 0))), (5, Ai 9007199254740991), (95, .bool (((decide (p0.Dm < 0)) || (decide (p0.Dm > 9007199254740991))) || (decide (p0.Eb < 0))))]) ?_ ?_
  ·cases hb : ((decide (p0.Dm < 0)) || (decide (p0.Dm > 9007199254740991)) : Bool) with
   | true =>
    replace H := H.kn 91 hb
    exact AF 4 [(95, .bool true)] H fun fr H => AY H hb
   | false =>
    replace H := H.kn 91 hb
    refine AR 1 [] 93 0 5 A H fun fr t H => ?_
    exact AF 2 [(95, .bool (decide (p0.Eb < 0)))] H fun fr H => AY H hb
  intro t fr h' hK
  obtain ⟨e, H⟩ := hK
  subst e
  refine AF 1 [(96, .bool (((decide (p0.Dm < 0)) || (decide (p0.Dm > 9007199254740991))) || (decide (p0.Eb < 0))))] H fun fr H => An 5 (fun fr' h' => h15 = h' ∧ Has fr' 142 [(1, .ptr (some (h.size, 0))), (101, .bool ((((decide (p0.Dm < 0)) || (decide (p0.Dm > 9007199254740991))) || (decide (p0.Eb < 0))) || (decide (p0.Eb > 9007199254740991))))]) ?_ ?_
  ·cases hb : (((decide (p0.Dm < 0)) || (decide (p0.Dm > 9007199254740991))) || (decide (p0.Eb < 0)) : Bool) with
   | true =>
    replace H := H.kn 96 hb
    exact AF 5 [(101, .bool true)] H fun fr H => AY H hb
   | false =>
    replace H := H.kn 96 hb
    refine AR 1 [] 98 0 5 A H fun fr t H => ?_
    exact AF 3 [(101, .bool (decide (p0.Eb > 9007199254740991)))] H fun fr H => AY H hb
  intro t fr h' hK
  obtain ⟨e, H⟩ := hK
  subst e
  refine AF 1 [(102, .bool ((((decide (p0.Dm < 0)) || (decide (p0.Dm > 9007199254740991))) || (decide (p0.Eb < 0))) || (decide (p0.Eb > 9007199254740991))))] H fun fr H => An 4 (fun fr' h' => h15 = h' ∧ Has fr' 142 [(1, .ptr (some (h.size, 0))), (106, .bool (((((decide (p0.Dm < 0)) || (decide (p0.Dm > 9007199254740991))) || (decide (p0.Eb < 0))) || (decide (p0.Eb > 9007199254740991))) || (decide (p0.Mode < 0))))]) ?_ ?_
  ·cases hb : ((((decide (p0.Dm < 0)) || (decide (p0.Dm > 9007199254740991))) || (decide (p0.Eb < 0))) || (decide (p0.Eb > 9007199254740991)) : Bool) with
   | true =>
    replace H := H.kn 102 hb
    exact AF 4 [(106, .bool true)] H fun fr H => AY H hb
   | false =>
    replace H := H.kn 102 hb
    refine AR 1 [] 104 0 3 A H fun fr t H => ?_
    exact AF 2 [(106, .bool (decide (p0.Mode < 0)))] H fun fr H => AY H hb
  intro t fr h' hK
  obtain ⟨e, H⟩ := hK
  subst e
  refine AF 1 [(107, .bool (((((decide (p0.Dm < 0)) || (decide (p0.Dm > 9007199254740991))) || (decide (p0.Eb < 0))) || (decide (p0.Eb > 9007199254740991))) || (decide (p0.Mode < 0))))] H fun fr H => An 4 (fun fr' h' => h15 = h' ∧ Has fr' 142 [(1, .ptr (some (h.size, 0))), (111, .bool ((((((decide (p0.Dm < 0)) || (decide (p0.Dm > 9007199254740991))) || (decide (p0.Eb < 0))) || (decide (p0.Eb > 9007199254740991))) || (decide (p0.Mode < 0))) || (decide (p0.Mode ≥ 2097152))))]) ?_ ?_
  ·cases hb : (((((decide (p0.Dm < 0)) || (decide (p0.Dm > 9007199254740991))) || (decide (p0.Eb < 0))) || (decide (p0.Eb > 9007199254740991))) || (decide (p0.Mode < 0)) : Bool) with
   | true =>
    replace H := H.kn 107 hb
    exact AF 4 [(111, .bool true)] H fun fr H => AY H hb
   | false =>
    replace H := H.kn 107 hb
    refine AR 1 [] 109 0 3 A H fun fr t H => ?_
    exact AF 2 [(111, .bool (decide (p0.Mode ≥ 2097152)))] H fun fr H => AY H hb
  intro t fr h' hK
  obtain ⟨e, H⟩ := hK
  subst e
  refine AF 1 [(112, .bool ((((((decide (p0.Dm < 0)) || (decide (p0.Dm > 9007199254740991))) || (decide (p0.Eb < 0))) || (decide (p0.Eb > 9007199254740991))) || (decide (p0.Mode < 0))) || (decide (p0.Mode ≥ 2097152))))] H fun fr H => An 4 (fun fr' h' => h15 = h' ∧ Has fr' 142 [(1, .ptr (some (h.size, 0))), (116, .bool (((((((decide (p0.Dm < 0)) || (decide (p0.Dm > 9007199254740991))) || (decide (p0.Eb < 0))) || (decide (p0.Eb > 9007199254740991))) || (decide (p0.Mode < 0))) || (decide (p0.Mode ≥ 2097152))) || (decide (p0.CY < 0))))]) ?_ ?_
  ·cases hb : ((((((decide (p0.Dm < 0)) || (decide (p0.Dm > 9007199254740991))) || (decide (p0.Eb < 0))) || (decide (p0.Eb > 9007199254740991))) || (decide (p0.Mode < 0))) || (decide (p0.Mode ≥ 2097152)) : Bool) with
   | true =>
    replace H := H.kn 112 hb
    exact AF 4 [(116, .bool true)] H fun fr H => AY H hb
   | false =>
    replace H := H.kn 112 hb
    refine AR 1 [] 114 0 8 A H fun fr t H => ?_
    exact AF 2 [(116, .bool (decide (p0.CY < 0)))] H fun fr H => AY H hb
  intro t fr h' hK
  obtain ⟨e, H⟩ := hK
  subst e
  refine AF 1 [(117, .bool (((((((decide (p0.Dm < 0)) || (decide (p0.Dm > 9007199254740991))) || (decide (p0.Eb < 0))) || (decide (p0.Eb > 9007199254740991))) || (decide (p0.Mode < 0))) || (decide (p0.Mode ≥ 2097152))) || (decide (p0.CY < 0))))] H fun fr H => An 4 (fun fr' h' => h15 = h' ∧ Has fr' 142 [(1, .ptr (some (h.size, 0))), (121, .bool ((((((((decide (p0.Dm < 0)) || (decide (p0.Dm > 9007199254740991))) || (decide (p0.Eb < 0))) || (decide (p0.Eb > 9007199254740991))) || (decide (p0.Mode < 0))) || (decide (p0.Mode ≥ 2097152))) || (decide (p0.CY < 0))) || (decide (p0.CY ≥ 2097152))))]) ?_ ?_
  ·cases hb : (((((((decide (p0.Dm < 0)) || (decide (p0.Dm > 9007199254740991))) || (decide (p0.Eb < 0))) || (decide (p0.Eb > 9007199254740991))) || (decide (p0.Mode < 0))) || (decide (p0.Mode ≥ 2097152))) || (decide (p0.CY < 0)) : Bool) with
   | true =>
    replace H := H.kn 117 hb
    exact AF 4 [(121, .bool true)] H fun fr H => AY H hb
   | false =>
    replace H := H.kn 117 hb
    refine AR 1 [] 119 0 8 A H fun fr t H => ?_
    exact AF 2 [(121, .bool (decide (p0.CY ≥ 2097152)))] H fun fr H => AY H hb
  intro t fr h' hK
  obtain ⟨e, H⟩ := hK
  subst e
  refine AF 1 [(122, .bool ((((((((decide (p0.Dm < 0)) || (decide (p0.Dm > 9007199254740991))) || (decide (p0.Eb < 0))) || (decide (p0.Eb > 9007199254740991))) || (decide (p0.Mode < 0))) || (decide (p0.Mode ≥ 2097152))) || (decide (p0.CY < 0))) || (decide (p0.CY ≥ 2097152))))] H fun fr H => An 4 (fun fr' h' => h15 = h' ∧ Has fr' 142 [(1, .ptr (some (h.size, 0))), (126, .bool (((((((((decide (p0.Dm < 0)) || (decide (p0.Dm > 9007199254740991))) || (decide (p0.Eb < 0))) || (decide (p0.Eb > 9007199254740991))) || (decide (p0.Mode < 0))) || (decide (p0.Mode ≥ 2097152))) || (decide (p0.CY < 0))) || (decide (p0.CY ≥ 2097152))) || (decide (p0.EX < 0))))]) ?_ ?_
  ·cases hb : ((((((((decide (p0.Dm < 0)) || (decide (p0.Dm > 9007199254740991))) || (decide (p0.Eb < 0))) || (decide (p0.Eb > 9007199254740991))) || (decide (p0.Mode < 0))) || (decide (p0.Mode ≥ 2097152))) || (decide (p0.CY < 0))) || (decide (p0.CY ≥ 2097152)) : Bool) with
   | true =>
    replace H := H.kn 122 hb
    exact AF 4 [(126, .bool true)] H fun fr H => AY H hb
   | false =>
    replace H := H.kn 122 hb
    refine AR 1 [] 124 0 9 A H fun fr t H => ?_
    exact AF 2 [(126, .bool (decide (p0.EX < 0)))] H fun fr H => AY H hb
  intro t fr h' hK
  obtain ⟨e, H⟩ := hK
  subst e
  refine AF 1 [(127, .bool (((((((((decide (p0.Dm < 0)) || (decide (p0.Dm > 9007199254740991))) || (decide (p0.Eb < 0))) || (decide (p0.Eb > 9007199254740991))) || (decide (p0.Mode < 0))) || (decide (p0.Mode ≥ 2097152))) || (decide (p0.CY < 0))) || (decide (p0.CY ≥ 2097152))) || (decide (p0.EX < 0))))] H fun fr H => An 4 (fun fr' h' => h15 = h' ∧ Has fr' 142 [(1, .ptr (some (h.size, 0))), (131, .bool ((((((((((decide (p0.Dm < 0)) || (decide (p0.Dm > 9007199254740991))) || (decide (p0.Eb < 0))) || (decide (p0.Eb > 9007199254740991))) || (decide (p0.Mode < 0))) || (decide (p0.Mode ≥ 2097152))) || (decide (p0.CY < 0))) || (decide (p0.CY ≥ 2097152))) || (decide (p0.EX < 0))) || (decide (p0.EX ≥ 2097152))))]) ?_ ?_
  ·cases hb : (((((((((decide (p0.Dm < 0)) || (decide (p0.Dm > 9007199254740991))) || (decide (p0.Eb < 0))) || (decide (p0.Eb > 9007199254740991))) || (decide (p0.Mode < 0))) || (decide (p0.Mode ≥ 2097152))) || (decide (p0.CY < 0))) || (decide (p0.CY ≥ 2097152))) || (decide (p0.EX < 0)) : Bool) with
   | true =>
    replace H := H.kn 127 hb
    exact AF 4 [(131, .bool true)] H fun fr H => AY H hb
   | false =>
    replace H := H.kn 127 hb
    refine AR 1 [] 129 0 9 A H fun fr t H => ?_
    exact AF 2 [(131, .bool (decide (p0.EX ≥ 2097152)))] H fun fr H => AY H hb
  intro t fr h' hK
  obtain ⟨e, H⟩ := hK
  subst e
  refine AF 1 [(132, .bool ((((((((((decide (p0.Dm < 0)) || (decide (p0.Dm > 9007199254740991))) || (decide (p0.Eb < 0))) || (decide (p0.Eb > 9007199254740991))) || (decide (p0.Mode < 0))) || (decide (p0.Mode ≥ 2097152))) || (decide (p0.CY < 0))) || (decide (p0.CY ≥ 2097152))) || (decide (p0.EX < 0))) || (decide (p0.EX ≥ 2097152))))] H fun fr H => ?_
  obtain ⟨x15, ho, hm⟩ := bind_some hm
  refine An 9 (fun fr' h' => Has fr' 142 [(141, .bool x15)] ∧ HH g h' [.obj h.size (.cells none 2 (AD p0))] F) ?_ ?_
  ·rcases AU ho with ⟨hb, hm⟩ | ⟨hb, hm⟩
   ·replace H := H.kn 132 hb
    refine AF 9 [(141, .bool true)] H fun fr H => ?_
    obtain rfl := Aa hm
    exact at_nil ⟨H.ls, A⟩
   replace H := H.kn 132 hb
   refine AR 2 [] 135 0 10 A H fun fr t H => ?_
   refine AR 2 [] 138 0 11 A H fun fr t H => ?_
   obtain ⟨x16, hx, hm⟩ := bind_some hm
   obtain ⟨v1, h17, hr, rfl, A1⟩ := KK (av := [Ai p0.Time.DF, Ai p0.Time.Bp]) hx (A.cut 0)
   replace A := A.EV A1
   refine Ay 139 hr H fun fr t H => ?_
   refine AF 2 [(141, .bool (!x16))] H fun fr H => ?_
   obtain rfl := Aa hm
   exact at_nil ⟨H.ls, A⟩
  clear A
  intro t fr h16 hK
  obtain ⟨H, A⟩ := hK
  refine BB id (Ak 141 H hm (fun hb hm H => ?_) fun hb hm H => ?_)
  ·refine AG 1 (AN 1 [(2, Ai 6)] H fun fr H => AS ?_)
   obtain rfl := Aa hm
   refine ⟨.inl rfl, Ai 6, rH H, ?_⟩
   replace A := A.d0
   exact ⟨rfl, A⟩
  refine Cm 1 id (AN 1 [(2, Ai 0)] H fun fr H => AS ?_)
  obtain rfl := Aa hm
  refine ⟨.inl rfl, Ai 0, rH H, ?_⟩
  replace A := A.d0
  exact ⟨rfl, A⟩
 ·obtain rfl := Aa hm
  refine ⟨.inl rfl, Ai x7, rH H, ?_⟩
  replace A := A.d0
  exact ⟨rfl, A⟩
 exact hF.elim
def BQ (p0 : List (List UInt8)) (s : Int) : Option ((Int) ⊕ ((Unit) ⊕ (Int))) :=
 match s with
 | x1 => Ae (decide (x1 < (p0.length : Int))) ((HR p0 x1).bind fun x3 => (Gt x3).bind fun x4 => Ae x4 (some (.inr (.inr x1))) (some (.inl (IntKind.i64.wrap (x1 + 1))))) (some (.inr (.inl ())))
def CD (p0 : List (List UInt8)) : Option (Int) :=
 (loop (BQ p0) (0 : Int)).bind fun o1 => (match o1 with | .inl _ => some (-1 : Int) | .inr x2 => some x2)
theorem GC {p0 q0} (hm : CD p0 = some q0) (A : HH g h [] F) (hc : BI (cfg.still 161) av = [vs eS p0, .func (.func 100) [] []] := by kernel_rfl) : ∃ v h', BL cfg g h 161 av v h' ∧ v = Ai q0 ∧ HH g h' [] F := by
 refine D5 19 [.tmp 4] hc ?_
 clear hc
 unfold CD at hm
 refine bg 19 [(0, vs eS p0), (1, .func (.func 100) [] [])] fun fr H => ?_
 refine AG 1 (AN 1 [] H fun fr H => AQ (AG 3 (AN 3 [(7, Ai (p0.length : Int)), (8, Ai 0)] H fun fr H => AX (id := 0) (by kernel_rfl) ?_)))
 obtain ⟨o1, ho, hm⟩ := bind_some hm
 refine BM (Q' := fun e fr' h' => (e = .exit 0 ∧ .inl () = o1 ∧ Has fr' 19 [] ∧ HH g h' [] F) ∨ (∃ x2, e = .ret ∧ .inr x2 = o1 ∧ Has fr' 19 [(4, Ai x2)] ∧ HH g h' [] F) ∨ False) ?_ ?_
 ·refine B8 (by kernel_rfl) (fun (s : Int) fr' h' => ∃ x1, x1 = s ∧ Has fr' 19 [(0, vs eS p0), (1, .func (.func 100) [] []), (7, Ai (p0.length : Int)), (8, Ai x1)] ∧ HH g h' [] F) ho ⟨_, rfl, H.ls, A⟩ ?_
  clear ho hm H A
  intro s q fr h1 hI hm
  obtain ⟨x1, rfl, H, A⟩ := hI
  unfold BQ at hm
  refine AG 1 (AN 1 [(9, .bool (decide (x1 < (p0.length : Int))))] H fun fr H => AQ (Ak 9 H hm (fun hb hm H => ?_) fun hb hm H => ?_))
  ·refine Be id (AQ (AX (id := 1) (by kernel_rfl) ?_))
   refine AG 2 (BT 2 [(5, Ai x1)] 6 H fun fr H => ?_)
   obtain ⟨x3, hx, hm⟩ := bind_some hm
   refine As 3 [(11, .func (.func 100) [] [])] 14 (.A7 [.str x3]) h1 H (fun fr => .of (I3 (e := eS) (x := x3) encS (by decide) (by kernel_rfl) hx)) fun fr t H => ?_
   refine Az 15 (.str x3) h1 H (fun fr => .of (IQ (by kernel_rfl))) fun fr t H => ?_
   obtain ⟨x4, hx, hm⟩ := bind_some hm
   obtain ⟨v1, h2, hr, rfl, A1⟩ := NL (av := [.str x3]) hx (A.cut 0)
   replace A := A.EV A1
   refine Ay 16 hr H fun fr t H => ?_
   refine BB id (Ak 16 H hm (fun hb hm H => ?_) fun hb hm H => ?_)
   ·refine AG 2 (AN 2 [(4, Ai x1)] H fun fr H => AS ?_)
    exact nr hm fun e => Or.inr (.inl ⟨_, rfl, e, H.ls, A⟩)
   refine FH 2 id (Bi 2 [(0, vs eS p0), (1, .func (.func 100) [] []), (7, Ai (p0.length : Int)), (8, Ai (IntKind.i64.wrap (x1 + 1)))] H fun fr H => at_nil ?_)
   exact nx hm ⟨_, rfl, H.ls, A⟩
  refine Bn (i := 0) (by kernel_rfl) ?_
  exact nr hm fun e => .inl ⟨rfl, e, H.ls, A⟩
 clear ho
 clear A
 intro e fr h3 hQ
 rcases hQ with ⟨rfl, rfl, H, A⟩ | ⟨x2, rfl, rfl, H, A⟩ | hF
 ·show AW _ _ _ _ _ _ _
  refine AG 1 (AN 1 [(4, Ai (-1))] H fun fr H => AS ?_)
  obtain rfl := Aa hm
  exact ⟨.inl rfl, _, rH H, rfl, A⟩
 ·obtain rfl := Aa hm
  exact ⟨.inl rfl, _, rH H, rfl, A⟩
 exact hF.elim
def DR (p0 : List (List UInt8)) (s : Int × Int) : Option ((Int × Int) ⊕ ((Int))) :=
 match s with
 | (x2, x3) => Ae (decide (x3 < (p0.length : Int))) (none) (some (.inr x2))
def Bq (p0 : List (List UInt8)) : Option ((List (List UInt8))) :=
 (CD p0).bind fun x1 => Ae (x1 == (-1)) (some p0) ((loop (DR p0) (x1, IntKind.i64.wrap (x1 + 1))).bind fun x4 => none)
theorem F6 {p0 q0} (hm : Bq p0 = some q0) (A : HH g h [] F) (hc : BI (cfg.still 98) av = [vs eS p0, .func (.func 100) [] []] := by kernel_rfl) : ∃ v h', BL cfg g h 98 av v h' ∧ v = vs eS q0 ∧ HH g h' [] F := by
 refine D5 42 [.tmp 4] hc ?_
 clear hc
 unfold Bq at hm
 refine bg 42 [(0, vs eS p0), (1, .func (.func 100) [] [])] fun fr H => ?_
 refine AG 1 (BT 1 [] 4 H fun fr H => ?_)
 obtain ⟨x1, hx, hm⟩ := bind_some hm
 obtain ⟨v1, h1, hr, rfl, A1⟩ := GC (av := [vs eS p0, .func (.func 100) [] []]) hx (A.cut 0)
 replace A := A.EV A1
 refine BH 2 [] 10 hr H fun fr t H => ?_
 refine AN 1 [(5, Ai x1)] H fun fr H => AQ (AG 2 (AN 2 [(12, .bool (x1 == (-1)))] H fun fr H => Ak 12 H hm (fun hb hm H => ?_) fun hb hm H => ?_))
 ·refine AG 2 (AN 2 [(4, vs eS p0)] H fun fr H => AS ?_)
  obtain rfl := Aa hm
  exact ⟨.inl rfl, _, rH H, rfl, A⟩
 refine Be id (AQ (AG 3 (AN 3 [(6, Ai (IntKind.i64.wrap (x1 + 1)))] H fun fr H => AX (id := 0) (by kernel_rfl) ?_)))
 obtain ⟨o1, ho, hm⟩ := bind_some hm
 refine BM (Q' := fun e fr' h' => (∃ x4, e = .exit 0 ∧ x4 = o1 ∧ Has fr' 42 [(0, vs eS p0), (5, Ai x4)] ∧ HH g h' [] F) ∨ False) ?_ ?_
 ·refine B8 (by kernel_rfl) (fun (s : Int × Int) fr' h' => ∃ x2 x3, (x2, x3) = s ∧ Has fr' 42 [(0, vs eS p0), (1, .func (.func 100) [] []), (5, Ai x2), (6, Ai x3)] ∧ HH g h' [] F) ho ⟨_, _, rfl, H.ls, A⟩ ?_
  clear ho hm H A
  intro s q fr h2 hI hm
  obtain ⟨x2, x3, rfl, H, A⟩ := hI
  unfold DR at hm
  refine AQ (AG 4 (AN 4 [(19, .bool (decide (x3 < (p0.length : Int))))] H fun fr H => Ak 19 H hm (fun hb hm H => ?_) fun hb hm H => ?_))
  ·refine Be id (AQ ?_)
   cases hm
  refine Bn (i := 0) (by kernel_rfl) ?_
  exact nr hm fun e => .inl ⟨_, rfl, e, H.ls, A⟩
 clear ho
 clear A
 intro e fr h3 hQ
 rcases hQ with ⟨x4, rfl, rfl, H, A⟩ | hF
 ·cases hm
 exact hF.elim
def FO (p0 : List (List UInt8)) : Option ((List UInt8)) :=
 Fl (OU 16 p0.length) <| (Bq p0).bind fun x1 => Fl (QY x1 ([47] : List UInt8)) <| some (Lib.join x1 ([47] : List UInt8))
theorem JJ {p0 q0} (hm : FO p0 = some q0) (A : HH g h [] F) (hc : BI (cfg.still 57) av = [vs eS p0] := by kernel_rfl) : ∃ v h', BL cfg g h 57 av v h' ∧ v = .str q0 ∧ HH g h' [] F := by
 refine D5 7 [.tmp 2] hc ?_
 clear hc
 unfold FO at hm
 refine bg 7 [(0, vs eS p0)] fun fr H => ?_
 refine AG 1 (BT 1 [] 5 H fun fr H => ?_)
 have A1 := A.cut 0
 obtain ⟨hb, hm⟩ := BZ hm
 refine As 1 [] 4 (vs eS p0) h H (fun fr => Steps.call (by kernel_rfl) (GX (C := cfg) (f := 99) (a := 0) (t := 9) (xs := p0) encS (by decide) (by kernel_rfl) (l := exts) rfl (by kernel_rfl) (by kernel_rfl) rfl (Kx encS _ p0) (encS.BI _) hb)) fun fr t H => ?_
 obtain ⟨x1, hx, hm⟩ := bind_some hm
 obtain ⟨v1, h2, hr, rfl, A1⟩ := F6 (av := [vs eS p0, .func (.func 100) [] []]) hx (A.cut 0)
 replace A := A.EV A1
 refine Ay 5 hr H fun fr t H => ?_
 obtain ⟨hb, hm⟩ := BZ hm
 refine Az 6 (.str (Lib.join x1 ([47] : List UInt8))) h2 H (fun fr => Steps.call (by kernel_rfl) (Th (C := cfg) (f := 97) (xs := x1) (by kernel_rfl) (l := exts) rfl (by kernel_rfl) rfl (Kx encS _ x1) hb)) fun fr t H => ?_
 refine AN 1 [(2, .str (Lib.join x1 ([47] : List UInt8)))] H fun fr H => AS ?_
 obtain rfl := Aa hm
 exact ⟨.inl rfl, _, rH H, rfl, A⟩
def Dl (p0 : Bw) (p1 : List UInt8) : Option ((List ((List UInt8) × Bool))) :=
 (Et p1).bind fun x1 => (FO x1).bind fun x2 => some (HB p0.DT x2 true)
theorem KM {p0 p1 bp0 bp0_0 u1} (hm : Dl p0 p1 = some u1) (A : HH g h [.obj bp0 (.cells none 2 [.map (some bp0_0)]), .obj bp0_0 (.map 2 (BR (fun k : List UInt8 => .str k) (fun v : Bool => .bool v) p0.DT))] F) (hc : BI (cfg.still 47) av = [.ptr (some (bp0, 0)), .str p1] := by kernel_rfl) : ∃ v h', BL cfg g h 47 av v h' ∧ v = .tuple [] ∧ HH g h' [.obj bp0 (.cells none 2 [.map (some bp0_0)]), .obj bp0_0 (.map 2 (BR (fun k : List UInt8 => .str k) (fun v : Bool => .bool v) u1))] F := by
 refine D5 11 [] hc ?_
 clear hc
 unfold Dl at hm
 refine bg 11 [(0, .ptr (some (bp0, 0))), (1, .str p1)] fun fr H => ?_
 refine Jk 0 8 [(0, []), (1, []), (2, []), (3, []), (4, []), (5, [3]), (6, [3]), (7, [])] ?_
 refine AF 3 [(6, .ptr (some (bp0, 0)))] H fun fr H => B0 7 (.map (some bp0_0)) h [(3, bp0)] (g.BU) H (fun fr => .of (Dj (by kernel_rfl) (A.l1 0 0))) (fun fr H => ?_)
 refine AF 1 [(8, .str p1)] H fun fr H => ?_
 have A1 := A.Gm 0 (pr := [bp0]) (.cons 0 rfl (by simp [Ck.ids]) .nil)
 obtain ⟨x1, hx, hm⟩ := bind_some hm
 obtain ⟨v1, h1, hr, rfl, A1⟩ := Ic (av := [.str p1]) hx A1
 replace A := A.VX A1
 refine B0 9 (vs eS x1) h1 [(3, bp0)] (bp0 :: g.BU) H (fun fr => Steps.call (by kernel_rfl) hr) (fun fr H => ?_)
 have A1 := A.Gm 0 (pr := [bp0]) (.cons 0 rfl (by simp [Ck.ids]) .nil)
 obtain ⟨x2, hx, hm⟩ := bind_some hm
 obtain ⟨v1, h2, hr, rfl, A1⟩ := JJ (av := [vs eS x1]) hx A1
 replace A := A.VX A1
 refine B0 10 (.str x2) h2 [(3, bp0)] (bp0 :: g.BU) H (fun fr => Steps.call (by kernel_rfl) hr) (fun fr H => ?_)
 obtain ⟨h3, hx, A1⟩ := HH.Tp (kt := 9) (et := 4) (ek := fun k : List UInt8 => .str k) (ev := fun v : Bool => .bool v) (Ob (by kernel_rfl)) A 1 rfl (t := 115) (by kernel_rfl) x2 true
 replace A : HH g h3 [_, .obj bp0_0 (.map 2 (BR (fun k : List UInt8 => .str k) (fun v : Bool => .bool v) (HB p0.DT x2 true)))] F := A1
 refine K2 (.tuple []) h3 [(3, bp0)] (g.BU) H (fun fr => .of (SD (by kernel_rfl) hx)) (fun fr H => ?_)
 refine at_nil ?_
 obtain rfl := Aa hm
 refine ⟨.inr rfl, .tuple [], rH H, ?_⟩
 exact ⟨rfl, A⟩
def DD (p0 : List (List UInt8)) (s : (List ((List UInt8) × Bool)) × Int) : Option (((List ((List UInt8) × Bool)) × Int) ⊕ (((List ((List UInt8) × Bool))))) :=
 match s with
 | (x2, x3) => Ae (decide (x3 < (p0.length : Int))) (((HR p0 x3).bind fun x6 => (Dl (⟨x2⟩ : Bw) x6).bind fun x7 => some x7 : Option (((List ((List UInt8) × Bool))))).bind fun x5 => some (.inl (x5, IntKind.i64.wrap (x3 + 1)))) (some (.inr x2))
def C8 (p0 : List (List UInt8)) : Option (Bw) :=
 (Gw).bind fun x1w1 => (loop (DD p0) (x1w1.DT, (0 : Int))).bind fun x4 => some (⟨x4⟩ : Bw)
theorem HF {p0 q00} (hm : C8 p0 = some q00) (A : HH g h [] F) (hc : BI (cfg.still 16) av = [vs eS p0] := by kernel_rfl) : ∃ v h', BL cfg g h 16 av v h' ∧ ∃ (bq00 : Nat) (bq00_0 : Nat), v = .ptr (some (bq00, 0)) ∧ HH g h' [.obj bq00 (.cells none 2 [.map (some bq00_0)]), .obj bq00_0 (.map 2 (BR (fun k : List UInt8 => .str k) (fun v : Bool => .bool v) q00.DT))] F := by
 refine D5 20 [.tmp 2] hc ?_
 clear hc
 unfold C8 at hm
 refine bg 20 [(0, vs eS p0)] fun fr H => ?_
 refine AG 1 (BT 1 [] 2 H fun fr H => ?_)
 obtain ⟨x1w1, hx, hm⟩ := bind_some hm
 obtain ⟨v1, h1, hr, bx1w1, bx1w1_0, rfl, A1⟩ := NS (av := []) hx (A.cut 0)
 replace A := A.XM A1
 refine Ay 6 hr H fun fr t H => ?_
 refine AN 1 [(3, .ptr (some (bx1w1, 0)))] H fun fr H => AQ (AG 3 (AN 3 [(7, vs eS p0), (8, Ai (p0.length : Int)), (9, Ai 0)] H fun fr H => AX (id := 0) (by kernel_rfl) ?_))
 obtain ⟨o1, ho, hm⟩ := bind_some hm
 refine BM (Q' := fun e fr' h' => (∃ x4, e = .exit 0 ∧ x4 = o1 ∧ Has fr' 20 [(3, .ptr (some (bx1w1, 0)))] ∧ HH g h' [.obj bx1w1 (.cells none 2 [.map (some bx1w1_0)]), .obj bx1w1_0 (.map 2 (BR (fun k : List UInt8 => .str k) (fun v : Bool => .bool v) x4))] F) ∨ False) ?_ ?_
 ·refine B8 (by kernel_rfl) (fun (s : (List ((List UInt8) × Bool)) × Int) fr' h' => ∃ x2 x3, (x2, x3) = s ∧ Has fr' 20 [(3, .ptr (some (bx1w1, 0))), (7, vs eS p0), (8, Ai (p0.length : Int)), (9, Ai x3)] ∧ HH g h' [.obj bx1w1 (.cells none 2 [.map (some bx1w1_0)]), .obj bx1w1_0 (.map 2 (BR (fun k : List UInt8 => .str k) (fun v : Bool => .bool v) x2))] F) ho ⟨_, _, rfl, H.ls, A⟩ ?_
  clear ho hm H A
  intro s q fr h2 hI hm
  obtain ⟨x2, x3, rfl, H, A⟩ := hI
  unfold DD at hm
  refine AG 1 (AN 1 [(10, .bool (decide (x3 < (p0.length : Int))))] H fun fr H => AQ (Ak 10 H hm (fun hb hm H => ?_) fun hb hm H => ?_))
  ·refine Be id (AQ ?_)
   obtain ⟨o2, ho, hm⟩ := bind_some hm
   refine BM (Q' := fun e fr' h' => (∃ x5, e = .normal ∧ x5 = o2 ∧ Has fr' 20 [(3, .ptr (some (bx1w1, 0))), (7, vs eS p0), (8, Ai (p0.length : Int)), (9, Ai x3)] ∧ HH g h' [.obj bx1w1 (.cells none 2 [.map (some bx1w1_0)]), .obj bx1w1_0 (.map 2 (BR (fun k : List UInt8 => .str k) (fun v : Bool => .bool v) x5))] F) ∨ False) ?_ ?_
   ·replace hm := ho
    clear ho
    refine AX (id := 1) (by kernel_rfl) ?_
    refine AG 3 ?_
    obtain ⟨x6, hx, hm⟩ := bind_some hm
    refine Az 11 (.A7 [.str x6]) h2 H (fun fr => .of (I3 (e := eS) (x := x6) encS (by decide) (by kernel_rfl) hx)) fun fr t H => ?_
    refine Az 12 (.str x6) h2 H (fun fr => .of (IQ (by kernel_rfl))) fun fr t H => ?_
    refine BT 1 [(5, .str x6)] 2 H fun fr H => AN 2 [(14, .bool true)] H fun fr H => Dd (x := .tmp 14) (by kernel_rfl) H (fun fr => by kernel_rfl) ?_
    refine EW 3 ?_
    obtain ⟨x7, hx, hm⟩ := bind_some hm
    obtain ⟨v1, h3, hr, rfl, A1⟩ := KM (av := [.ptr (some (bx1w1, 0)), .str x6]) hx (A.cut 2)
    replace A := A.g22 A1
    refine SG 2 [] hr H fun fr t H => ?_
    refine at_nil ?_
    exact .inl ⟨_, rfl, Aa hm, H.ls, A⟩
   clear ho
   clear A
   intro e fr h4 hQ
   rcases hQ with ⟨x5, rfl, rfl, H, A⟩ | hF
   ·show AW _ _ _ _ _ _ _
    refine EW 2 (Bi 2 [(3, .ptr (some (bx1w1, 0))), (7, vs eS p0), (8, Ai (p0.length : Int)), (9, Ai (IntKind.i64.wrap (x3 + 1)))] H fun fr H => at_nil ?_)
    exact nx hm ⟨_, _, rfl, H.ls, A⟩
   exact hF.elim
  refine Bn (i := 0) (by kernel_rfl) ?_
  exact nr hm fun e => .inl ⟨_, rfl, e, H.ls, A⟩
 clear ho
 clear A
 intro e fr h5 hQ
 rcases hQ with ⟨x4, rfl, rfl, H, A⟩ | hF
 ·show AW _ _ _ _ _ _ _
  refine AG 2 (AN 2 [(2, .ptr (some (bx1w1, 0)))] H fun fr H => AS ?_)
  obtain rfl := Aa hm
  exact ⟨.inl rfl, _, rH H, _, _, rfl, A⟩
 exact hF.elim
def Gf (p0 : Bw) (p2 : Int) (x1 : List (List UInt8)) (s : Int) : Option ((Int) ⊕ ((Unit) ⊕ (Bool))) :=
 match s with
 | x2 => Ae (decide (x2 < (x1.length : Int))) (((WA x1 none (some x2)).bind fun x5 => (FO x5).bind fun x6 => Ae (!((D4 p0.DT x6).getD false)) (some (.inl ())) ((Ae (x2 == (IntKind.i64.wrap ((x1.length : Int) - 1))) ((HR x1 x2).bind fun x8 => some (x8 == ([67, 65, 67, 72, 69, 68, 73, 82, 46, 84, 65, 71] : List UInt8))) (some false) : Option (Bool)).bind fun x7 => Ae ((p2 != 1) || (!x7)) (some (.inr true)) (some (.inl ()))) : Option ((Unit) ⊕ (Bool))).bind fun o2 => (match o2 with | .inl _ => some (.inl (IntKind.i64.wrap (x2 + 1))) | .inr x4 => some (.inr (.inr x4)))) (some (.inr (.inl ())))
def Em (p0 : Bw) (p1 : List UInt8) (p2 : Int) : Option (Bool) :=
 Ae ((decide (p2 < 1)) || (decide (p2 > 3))) (some false) ((Et p1).bind fun x1 => (loop (Gf p0 p2 x1) (0 : Int)).bind fun o1 => (match o1 with | .inl _ => Ae (p2 == 3) ((Ae (decide ((x1.length : Int) > 0)) ((FO x1).bind fun x10 => some ((D4 p0.DT x10).getD false)) (some false) : Option (Bool)).bind fun x9 => some x9) (some false) | .inr x3 => some x3))
theorem KI {p0 p1 p2 bp0 bp0_0 q0} (hm : Em p0 p1 p2 = some q0) (A : HH g h [.obj bp0 (.cells none 2 [.map (some bp0_0)]), .obj bp0_0 (.map 2 (BR (fun k : List UInt8 => .str k) (fun v : Bool => .bool v) p0.DT))] F) (hc : BI (cfg.still 26) av = [.ptr (some (bp0, 0)), .str p1, Ai p2] := by kernel_rfl) : ∃ v h', BL cfg g h 26 av v h' ∧ v = .bool q0 ∧ HH g h' [.obj bp0 (.cells none 2 [.map (some bp0_0)]), .obj bp0_0 (.map 2 (BR (fun k : List UInt8 => .str k) (fun v : Bool => .bool v) p0.DT))] F := by
 refine D5 68 [.tmp 6] hc ?_
 clear hc
 unfold Em at hm
 refine bg 68 [(0, .ptr (some (bp0, 0))), (1, .str p1), (2, Ai p2)] fun fr H => ?_
 refine AG 1 (AN 1 [] H fun fr H => AQ (AG 6 (AF 3 [(12, .bool (decide (p2 < 1)))] H fun fr H => An 3 (fun fr' h' => h = h' ∧ Has fr' 68 [(0, .ptr (some (bp0, 0))), (1, .str p1), (2, Ai p2), (15, .bool ((decide (p2 < 1)) || (decide (p2 > 3))))]) ?_ ?_)))
 ·cases hb : (decide (p2 < 1) : Bool) with
  | true =>
   replace H := H.kn 12 hb
   exact AF 3 [(15, .bool true)] H fun fr H => AY H hb
  | false =>
   replace H := H.kn 12 hb
   exact AF 3 [(15, .bool (decide (p2 > 3)))] H fun fr H => AY H hb
 intro t fr h' hK
 obtain ⟨e, H⟩ := hK
 subst e
 refine BB id (Ak 15 H hm (fun hb hm H => ?_) fun hb hm H => ?_)
 ·refine AG 1 (AN 1 [(6, .bool false)] H fun fr H => AS ?_)
  obtain rfl := Aa hm
  exact ⟨.inl rfl, _, rH H, rfl, A⟩
 refine Cm 3 id ?_
 obtain ⟨x1, hx, hm⟩ := bind_some hm
 obtain ⟨v1, h1, hr, rfl, A1⟩ := Ic (av := [.str p1]) hx (A.cut 0)
 replace A := A.EV A1
 refine BH 1 [] 17 hr H fun fr t H => ?_
 refine AN 1 [(7, vs eS x1)] H fun fr H => AQ (AG 3 (AN 3 [(19, Ai (x1.length : Int)), (20, Ai 0)] H fun fr H => AX (id := 0) (by kernel_rfl) ?_))
 obtain ⟨o1, ho, hm⟩ := bind_some hm
 refine BM (Q' := fun e fr' h' => (e = .exit 0 ∧ .inl () = o1 ∧ Has fr' 68 [(0, .ptr (some (bp0, 0))), (2, Ai p2), (7, vs eS x1)] ∧ HH g h' [.obj bp0 (.cells none 2 [.map (some bp0_0)]), .obj bp0_0 (.map 2 (BR (fun k : List UInt8 => .str k) (fun v : Bool => .bool v) p0.DT))] F) ∨ (∃ x3, e = .ret ∧ .inr x3 = o1 ∧ Has fr' 68 [(6, .bool x3)] ∧ HH g h' [.obj bp0 (.cells none 2 [.map (some bp0_0)]), .obj bp0_0 (.map 2 (BR (fun k : List UInt8 => .str k) (fun v : Bool => .bool v) p0.DT))] F) ∨ False) ?_ ?_
 ·refine B8 (by kernel_rfl) (fun (s : Int) fr' h' => ∃ x2, x2 = s ∧ Has fr' 68 [(0, .ptr (some (bp0, 0))), (2, Ai p2), (7, vs eS x1), (19, Ai (x1.length : Int)), (20, Ai x2)] ∧ HH g h' [.obj bp0 (.cells none 2 [.map (some bp0_0)]), .obj bp0_0 (.map 2 (BR (fun k : List UInt8 => .str k) (fun v : Bool => .bool v) p0.DT))] F) ho ⟨_, rfl, H.ls, A⟩ ?_
  clear ho hm H A
  intro s q fr h2 hI hm
  obtain ⟨x2, rfl, H, A⟩ := hI
  unfold Gf at hm
  refine AG 1 (AN 1 [(21, .bool (decide (x2 < (x1.length : Int))))] H fun fr H => AQ (Ak 21 H hm (fun hb hm H => ?_) fun hb hm H => ?_))
  ·refine Be id (AQ ?_)
   obtain ⟨o2, ho, hm⟩ := bind_some hm
   refine BM (Q' := fun e fr' h' => (e = .normal ∧ .inl () = o2 ∧ Has fr' 68 [(0, .ptr (some (bp0, 0))), (2, Ai p2), (7, vs eS x1), (19, Ai (x1.length : Int)), (20, Ai x2)] ∧ HH g h' [.obj bp0 (.cells none 2 [.map (some bp0_0)]), .obj bp0_0 (.map 2 (BR (fun k : List UInt8 => .str k) (fun v : Bool => .bool v) p0.DT))] F) ∨ (∃ x4, e = .ret ∧ .inr x4 = o2 ∧ Has fr' 68 [(6, .bool x4)] ∧ HH g h' [.obj bp0 (.cells none 2 [.map (some bp0_0)]), .obj bp0_0 (.map 2 (BR (fun k : List UInt8 => .str k) (fun v : Bool => .bool v) p0.DT))] F) ∨ False) ?_ ?_
   ·replace hm := ho
    clear ho
    refine AX (id := 1) (by kernel_rfl) ?_
    refine AG 2 (AN 2 [(8, Ai x2)] H fun fr H => AQ (AQ (Jk 7 10 [(0, []), (1, []), (2, []), (3, []), (4, []), (5, []), (6, []), (7, [3]), (8, []), (9, [])] ?_)))
    refine AF 3 [(25, .ptr (some (bp0, 0)))] H fun fr H => B0 26 (.map (some bp0_0)) h2 [(3, bp0)] (g.BU) H (fun fr => .of (Dj (by kernel_rfl) (A.l1 0 0))) (fun fr H => ?_)
    refine AF 2 [(27, vs eS x1), (28, Ai x2)] H fun fr H => ?_
    obtain ⟨x5, hx, hm⟩ := bind_some hm
    refine B0 29 (vs eS x5) h2 [(3, bp0)] (g.BU) H (fun fr => .of (WB (e := eS) encS (k := .i64) (k' := .i64) (lo := none) (hi := (some x2)) (by kernel_rfl) hx)) (fun fr H => ?_)
    have A1 := A.Gm 0 (pr := [bp0]) (.cons 0 rfl (by simp [Ck.ids]) .nil)
    obtain ⟨x6, hx, hm⟩ := bind_some hm
    obtain ⟨v1, h3, hr, rfl, A1⟩ := JJ (av := [vs eS x5]) hx A1
    replace A := A.VX A1
    refine B0 30 (.str x6) h3 [(3, bp0)] (bp0 :: g.BU) H (fun fr => Steps.call (by kernel_rfl) hr) (fun fr H => ?_)
    refine B0 31 (.bool ((D4 p0.DT x6).getD false)) h3 [(8, bp0_0), (3, bp0)] (g.BU) H (fun fr => .of (PE (by kernel_rfl) (HH.Qe (kt := 9) (et := 4) (ek := fun k : List UInt8 => .str k) (ev := fun v : Bool => .bool v) (Ob (by kernel_rfl)) A 1 rfl (t := 115) (by kernel_rfl) (z := false) (by kernel_rfl) x6))) (fun fr H => ?_)
    refine AN 1 [(32, .bool (!((D4 p0.DT x6).getD false)))] H fun fr H => Ak 32 H hm (fun hb hm H => ?_) fun hb hm H => ?_
    ·refine Bn (i := 1) (by kernel_rfl) ?_
     exact .inl ⟨rfl, Aa hm, H.ls, A⟩
    refine Cm 13 id (AF 6 [(38, .bool (x2 == (IntKind.i64.wrap ((x1.length : Int) - 1))))] H fun fr H => ?_)
    obtain ⟨x7, ho, hm⟩ := bind_some hm
    refine An 6 (fun fr' h' => Has fr' 68 [(0, .ptr (some (bp0, 0))), (2, Ai p2), (7, vs eS x1), (19, Ai (x1.length : Int)), (20, Ai x2), (44, .bool x7)] ∧ HH g h' [.obj bp0 (.cells none 2 [.map (some bp0_0)]), .obj bp0_0 (.map 2 (BR (fun k : List UInt8 => .str k) (fun v : Bool => .bool v) p0.DT))] F) ?_ ?_
    ·rcases AU ho with ⟨hb, hm⟩ | ⟨hb, hm⟩
     ·replace H := H.kn 38 hb
      obtain ⟨x8, hx, hm⟩ := bind_some hm
      refine As 2 [] 41 (.A7 [.str x8]) h3 H (fun fr => .of (I3 (e := eS) (x := x8) encS (by decide) (by kernel_rfl) hx)) fun fr t H => ?_
      refine Az 42 (.str x8) h3 H (fun fr => .of (IQ (by kernel_rfl))) fun fr t H => ?_
      refine AF 2 [(44, .bool (x8 == ([67, 65, 67, 72, 69, 68, 73, 82, 46, 84, 65, 71] : List UInt8)))] H fun fr H => ?_
      obtain rfl := Aa hm
      exact at_nil ⟨H.ls, A⟩
     replace H := H.kn 38 hb
     refine AF 6 [(44, .bool false)] H fun fr H => ?_
     obtain rfl := Aa hm
     exact at_nil ⟨H.ls, A⟩
    clear A
    intro t fr h4 hK
    obtain ⟨H, A⟩ := hK
    refine BT 1 [(9, .bool x7)] 6 H fun fr H => AF 3 [(47, .bool (p2 != 1))] H fun fr H => An 3 (fun fr' h' => h4 = h' ∧ Has fr' 68 [(0, .ptr (some (bp0, 0))), (2, Ai p2), (7, vs eS x1), (19, Ai (x1.length : Int)), (20, Ai x2), (50, .bool ((p2 != 1) || (!x7)))]) ?_ ?_
    ·cases hb : (p2 != 1 : Bool) with
     | true =>
      replace H := H.kn 47 hb
      exact AF 3 [(50, .bool true)] H fun fr H => AY H hb
     | false =>
      replace H := H.kn 47 hb
      exact AF 3 [(50, .bool (!x7))] H fun fr H => AY H hb
    intro t fr h' hK
    obtain ⟨e, H⟩ := hK
    subst e
    refine BB id (Ak 50 H hm (fun hb hm H => ?_) fun hb hm H => ?_)
    ·refine AG 1 (AN 1 [(6, .bool true)] H fun fr H => AS ?_)
     exact .inr (.inl ⟨_, rfl, Aa hm, H.ls, A⟩)
    exact IG (.inl ⟨rfl, Aa hm, H.ls, A⟩)
   clear ho
   clear A
   intro e fr h5 hQ
   rcases hQ with ⟨rfl, rfl, H, A⟩ | ⟨x4, rfl, rfl, H, A⟩ | hF
   ·show AW _ _ _ _ _ _ _
    refine EW 2 (Bi 2 [(0, .ptr (some (bp0, 0))), (2, Ai p2), (7, vs eS x1), (19, Ai (x1.length : Int)), (20, Ai (IntKind.i64.wrap (x2 + 1)))] H fun fr H => at_nil ?_)
    exact nx hm ⟨_, rfl, H.ls, A⟩
   ·exact nr hm fun e => Or.inr (.inl ⟨_, rfl, e, H.ls, A⟩)
   exact hF.elim
  refine Bn (i := 0) (by kernel_rfl) ?_
  exact nr hm fun e => .inl ⟨rfl, e, H.ls, A⟩
 clear ho
 clear A
 intro e fr h6 hQ
 rcases hQ with ⟨rfl, rfl, H, A⟩ | ⟨x3, rfl, rfl, H, A⟩ | hF
 ·show AW _ _ _ _ _ _ _
  refine AQ (Jk 12 17 [(0, []), (1, []), (2, []), (3, []), (4, []), (5, []), (6, []), (7, []), (8, []), (9, []), (10, []), (11, []), (12, []), (13, [11]), (14, []), (15, []), (16, [])] ?_)
  refine AF 3 [(54, .bool (p2 == 3))] H fun fr H => ?_
  rcases AU hm with ⟨hb, hm⟩ | ⟨hb, hm⟩
  ·replace H := H.kn 54 hb
   refine AF 5 [(59, .bool (decide ((x1.length : Int) > 0)))] H fun fr H => ?_
   obtain ⟨x9, ho, hm⟩ := bind_some hm
   refine An 8 (fun fr' h' => Has fr' 68 [(67, .bool x9)] ∧ HH g h' [.obj bp0 (.cells none 2 [.map (some bp0_0)]), .obj bp0_0 (.map 2 (BR (fun k : List UInt8 => .str k) (fun v : Bool => .bool v) p0.DT))] F) ?_ ?_
   ·rcases AU ho with ⟨hb, hm⟩ | ⟨hb, hm⟩
    ·replace H := H.kn 59 hb
     refine AF 3 [(62, .ptr (some (bp0, 0)))] H fun fr H => B0 63 (.map (some bp0_0)) h6 [(11, bp0)] (g.BU) H (fun fr => .of (Dj (by kernel_rfl) (A.l1 0 0))) (fun fr H => ?_)
     refine AF 1 [(64, vs eS x1)] H fun fr H => ?_
     have A1 := A.Gm 0 (pr := [bp0]) (.cons 0 rfl (by simp [Ck.ids]) .nil)
     obtain ⟨x10, hx, hm⟩ := bind_some hm
     obtain ⟨v1, h8, hr, rfl, A1⟩ := JJ (av := [vs eS x1]) hx A1
     replace A := A.VX A1
     refine B0 65 (.str x10) h8 [(11, bp0)] (bp0 :: g.BU) H (fun fr => Steps.call (by kernel_rfl) hr) (fun fr H => ?_)
     refine B0 66 (.bool ((D4 p0.DT x10).getD false)) h8 [(14, bp0_0), (11, bp0)] (g.BU) H (fun fr => .of (PE (by kernel_rfl) (HH.Qe (kt := 9) (et := 4) (ek := fun k : List UInt8 => .str k) (ev := fun v : Bool => .bool v) (Ob (by kernel_rfl)) A 1 rfl (t := 115) (by kernel_rfl) (z := false) (by kernel_rfl) x10))) (fun fr H => ?_)
     refine AF 1 [(67, .bool ((D4 p0.DT x10).getD false))] H fun fr H => ?_
     obtain rfl := Aa hm
     exact at_nil ⟨H.ls, A⟩
    replace H := H.kn 59 hb
    refine AF 5 [(63, .tuple []), (64, .tuple [])] H fun fr H => I7 [(59, .bool false), (63, .tuple []), (65, .tuple [])] H (fun fr => by kernel_rfl) ?_
    intro fr H
    refine AF 2 [(67, .bool false)] H fun fr H => ?_
    obtain rfl := Aa hm
    exact at_nil ⟨H.ls, A⟩
   clear A
   intro t fr h7 hK
   obtain ⟨H, A⟩ := hK
   refine AN 1 [(6, .bool x9)] H fun fr H => AS ?_
   obtain rfl := Aa hm
   exact ⟨.inl rfl, _, rH H, rfl, A⟩
  replace H := H.kn 54 hb
  refine AF 10 [(59, .bool false), (63, .tuple []), (64, .tuple [])] H fun fr H => I7 [(59, .bool false), (63, .tuple []), (65, .tuple [])] H (fun fr => by kernel_rfl) ?_
  intro fr H
  refine AN 3 [(6, .bool false)] H fun fr H => AS ?_
  obtain rfl := Aa hm
  exact ⟨.inl rfl, _, rH H, rfl, A⟩
 ·obtain rfl := Aa hm
  exact ⟨.inl rfl, _, rH H, rfl, A⟩
 exact hF.elim
end
end Go.Av.L
