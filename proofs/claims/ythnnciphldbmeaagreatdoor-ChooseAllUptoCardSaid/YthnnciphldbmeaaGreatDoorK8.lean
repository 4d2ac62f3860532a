/-
 Models of functions, and that the abstract run tells them. Written by lift2.py.
-/
import Derived.Test.YthnnciphldbmeaaGreatDoorKCfg
import Derived.Test.YthnnciphldbmeaaGreatDoorK4
import Derived.Test.YthnnciphldbmeaaGreatDoorK5
import Derived.Test.YthnnciphldbmeaaGreatDoorK6
import Derived.Test.YthnnciphldbmeaaGreatDoorK7
namespace Go.Av.L
open Go.Av Go.Lib
set_option maxRecDepth 10000
set_option maxHeartbeats 4000000
set_option linter.unusedVariables false
set_option linter.unusedSimpArgs false
variable {g : Gd} {h : AH} {F : List Ck} {av : List AA}
noncomputable section
def B6 (p0 : AV) (p1_0 : Bw) (p2_0 : Bg) : Option (Int) :=
 (Em p1_0 p0.Name p2_0.c_.Bm).bind fun x1 => Ae x1 (some (4 : Int)) (some (0 : Int))
theorem Gq {p0 p1_0 p2_0 bp1 bp1_0 bp1_0_0 bp2 bp2_0 rp2_0_14 rp2_0_15 bp2_0_16 rp2_0_16_0 bp2_0_17 q0} (hm : B6 p0 p1_0 p2_0 = some q0) (A : HH g h [.obj bp1 (.cells none 2 [.ptr (some (bp1_0, 0))]), .obj bp1_0 (.cells none 2 [.map (some bp1_0_0)]), .obj bp1_0_0 (.map 2 (BR (fun k : List UInt8 => .str k) (fun v : Bool => .bool v) p1_0.DT)), .obj bp2 (.cells none 2 [.ptr (some (bp2_0, 0))]), .obj bp2_0 (.cells none 2 [vs AE p2_0.c_.Ah, vs AE p2_0.c_.Aj, vs AJ p2_0.c_.Bl, .bool p2_0.c_.Ho, .bool p2_0.c_.BP, Ai p2_0.c_.Bm, .bool p2_0.c_.CC, Ai p2_0.c_.BD.DF, Ai p2_0.c_.BD.Bp, Ai p2_0.c_.HG, Ai p2_0.c_.B3, Ai p2_0.c_.Name, Ai p2_0.c_.Head, Ai p2_0.c_.Bd, AI rp2_0_14 p2_0.AZ.length, AI rp2_0_15 p2_0.Ac.length, .ptr (some (bp2_0_16, 0)), .ptr (some (bp2_0_17, 0))]), .AL rp2_0_14 136 (AL (eP AB) p2_0.AZ), .AL rp2_0_15 136 (AL (eP AB) p2_0.Ac), .obj bp2_0_16 (.cells none 2 [AI rp2_0_16_0 p2_0.Ad.l_.length, Ai p2_0.Ad.Ba]), .AL rp2_0_16_0 142 (AL (eP AK) p2_0.Ad.l_), .obj bp2_0_17 (.cells none 2 ([Ai p2_0.Ap.n_, Ai p2_0.Ap.Aq] ++ (Cl 257 (AA.int .i64) p2_0.Ap.BJ ++ [])))] F) (hc : BI (cfg.still 39) av = [.agg (AD p0), .ptr (some (bp1, 0)), .ptr (some (bp2, 0))] := by kernel_rfl) : ∃ v h', BL cfg g h 39 av v h' ∧ v = Ai q0 ∧ HH g h' [.obj bp1 (.cells none 2 [.ptr (some (bp1_0, 0))]), .obj bp1_0 (.cells none 2 [.map (some bp1_0_0)]), .obj bp1_0_0 (.map 2 (BR (fun k : List UInt8 => .str k) (fun v : Bool => .bool v) p1_0.DT)), .obj bp2 (.cells none 2 [.ptr (some (bp2_0, 0))]), .obj bp2_0 (.cells none 2 [vs AE p2_0.c_.Ah, vs AE p2_0.c_.Aj, vs AJ p2_0.c_.Bl, .bool p2_0.c_.Ho, .bool p2_0.c_.BP, Ai p2_0.c_.Bm, .bool p2_0.c_.CC, Ai p2_0.c_.BD.DF, Ai p2_0.c_.BD.Bp, Ai p2_0.c_.HG, Ai p2_0.c_.B3, Ai p2_0.c_.Name, Ai p2_0.c_.Head, Ai p2_0.c_.Bd, AI rp2_0_14 p2_0.AZ.length, AI rp2_0_15 p2_0.Ac.length, .ptr (some (bp2_0_16, 0)), .ptr (some (bp2_0_17, 0))]), .AL rp2_0_14 136 (AL (eP AB) p2_0.AZ), .AL rp2_0_15 136 (AL (eP AB) p2_0.Ac), .obj bp2_0_16 (.cells none 2 [AI rp2_0_16_0 p2_0.Ad.l_.length, Ai p2_0.Ad.Ba]), .AL rp2_0_16_0 142 (AL (eP AK) p2_0.Ad.l_), .obj bp2_0_17 (.cells none 2 ([Ai p2_0.Ap.n_, Ai p2_0.Ap.Aq] ++ (Cl 257 (AA.int .i64) p2_0.Ap.BJ ++ [])))] F := by
 refine D5 18 [.tmp 4] hc ?_
 clear hc
 unfold B6 at hm
 refine bg 18 [(0, .agg (AD p0)), (1, .ptr (some (bp1, 0))), (2, .ptr (some (bp2, 0)))] fun fr H => ?_
 refine AG 2 ?_
 obtain ⟨h1, e1, A⟩ := A.pu (.cells none 2 (AD p0))
 refine BC 3 (.ptr (some (h.size, 0))) e1 H fun fr t H => ?_
 refine AN 1 [] H fun fr H => AQ (AQ (EZ 1 13 ?_))
 refine Eu 5 1 0 A H fun fr t H => ?_
 refine AR 2 [(7, .bool true)] 8 1 0 A H fun fr t H => ?_
 refine AR 1 [] 10 0 0 A H fun fr t H => ?_
 refine Eu 11 4 0 A H fun fr t H => ?_
 refine AR 3 [] 15 5 5 A H fun fr t H => ?_
 replace A : HH g h1 [_, _, .obj h.size (.cells none 2 (AD p0)), _, _, _, _, _, _, _, _] F := ((A.front 3 rfl).front 3 rfl)
 obtain ⟨x1, hx, hm⟩ := bind_some hm
 obtain ⟨v1, h2, hr, rfl, A1⟩ := KI (av := [.ptr (some (bp1_0, 0)), .str p0.Name, Ai p2_0.c_.Bm]) hx (A.cut 2)
 replace A := A.g22 A1
 refine Ay 16 hr H fun fr t H => ?_
 refine AN 1 [(17, .bool x1)] H fun fr H => Ak 17 H hm (fun hb hm H => ?_) fun hb hm H => ?_
 ·refine AG 1 (AN 1 [(4, Ai 4)] H fun fr H => AS ?_)
  obtain rfl := Aa hm
  refine ⟨.inl rfl, Ai 4, rH H, ?_⟩
  replace A : HH g h2 [_, _, _, _, _, _, _, _, _, _] F := (HH.KS ((((((((((A.front 10 rfl).front 10 rfl).front 10 rfl).front 10 rfl).front 10 rfl).front 10 rfl).front 10 rfl).front 8 rfl).front 8 rfl).front 10 rfl) 10)
  exact ⟨rfl, A⟩
 refine Cm 1 id (AN 1 [(4, Ai 0)] H fun fr H => AS ?_)
 obtain rfl := Aa hm
 refine ⟨.inl rfl, Ai 0, rH H, ?_⟩
 replace A : HH g h2 [_, _, _, _, _, _, _, _, _, _] F := (HH.KS ((((((((((A.front 10 rfl).front 10 rfl).front 10 rfl).front 10 rfl).front 10 rfl).front 10 rfl).front 10 rfl).front 8 rfl).front 8 rfl).front 10 rfl) 10)
 exact ⟨rfl, A⟩
def CO (p0 : Bg) (p1 : AV) (p2 : Bw) : Option (AV × Int × Int × CF) :=
 (B5 p0 p1).bind fun x1 => Ae (x1 != 0) (some ((⟨([] : List UInt8), ([] : List UInt8), (0 : Int), (0 : Int), (0 : Int), (0 : Int), ([] : List UInt8), ([] : List UInt8), (0 : Int), (0 : Int), (⟨(0 : Int), (0 : Int)⟩ : Aw), ([] : List Am), ([] : List UInt8)⟩ : AV), x1, (0 : Int), p0.Ap)) ((B6 p1 p2 p0).bind fun x2 => Ae (x2 != 0) (some ((⟨([] : List UInt8), ([] : List UInt8), (0 : Int), (0 : Int), (0 : Int), (0 : Int), ([] : List UInt8), ([] : List UInt8), (0 : Int), (0 : Int), (⟨(0 : Int), (0 : Int)⟩ : Aw), ([] : List Am), ([] : List UInt8)⟩ : AV), x2, (0 : Int), p0.Ap)) ((CW p0 p1).bind fun x3 => Ae (x3 != 0) (some ((⟨([] : List UInt8), ([] : List UInt8), (0 : Int), (0 : Int), (0 : Int), (0 : Int), ([] : List UInt8), ([] : List UInt8), (0 : Int), (0 : Int), (⟨(0 : Int), (0 : Int)⟩ : Aw), ([] : List Am), ([] : List UInt8)⟩ : AV), x3, (0 : Int), p0.Ap)) ((Bv p0 p1).bind fun (x4, x5) => Ae (x4 != 0) (some ((⟨([] : List UInt8), ([] : List UInt8), (0 : Int), (0 : Int), (0 : Int), (0 : Int), ([] : List UInt8), ([] : List UInt8), (0 : Int), (0 : Int), (⟨(0 : Int), (0 : Int)⟩ : Aw), ([] : List Am), ([] : List UInt8)⟩ : AV), x4, (0 : Int), x5)) ((B1 (⟨p0.c_, p0.AZ, p0.Ac, p0.Ad, x5⟩ : Bg) p1).bind fun x6 => Ae (x6 != 0) (some ((⟨([] : List UInt8), ([] : List UInt8), (0 : Int), (0 : Int), (0 : Int), (0 : Int), ([] : List UInt8), ([] : List UInt8), (0 : Int), (0 : Int), (⟨(0 : Int), (0 : Int)⟩ : Aw), ([] : List Am), ([] : List UInt8)⟩ : AV), x6, (0 : Int), x5)) ((DH p1.Name p0.c_.B3).bind fun (x7, x8) => ((DH p1.Bf p0.c_.B3).bind fun (x10, x11) => Ae (x11 && (p1.Kind == 49)) (some x10) (some p1.Bf) : Option (((List UInt8)))).bind fun x9 => (CJ p0.Ad (⟨x7, x9, p1.Kind, p1.Mode, p1.Dm, p1.Eb, p1.CB, p1.Ca, p1.CY, p1.EX, p1.Time, p1.Extra, p1.Data⟩ : AV)).bind fun (x12, x13) => some (x12, (0 : Int), x13, x5))))))
theorem HZ {p0 p1 p2 bp0 rp0_14 rp0_15 bp0_16 rp0_16_0 bp0_17 bp2 bp2_0 q0 q1 q2 u5} (hm : CO p0 p1 p2 = some (q0, q1, q2, u5)) (A : HH g h [.obj bp0 (.cells none 2 [vs AE p0.c_.Ah, vs AE p0.c_.Aj, vs AJ p0.c_.Bl, .bool p0.c_.Ho, .bool p0.c_.BP, Ai p0.c_.Bm, .bool p0.c_.CC, Ai p0.c_.BD.DF, Ai p0.c_.BD.Bp, Ai p0.c_.HG, Ai p0.c_.B3, Ai p0.c_.Name, Ai p0.c_.Head, Ai p0.c_.Bd, AI rp0_14 p0.AZ.length, AI rp0_15 p0.Ac.length, .ptr (some (bp0_16, 0)), .ptr (some (bp0_17, 0))]), .AL rp0_14 136 (AL (eP AB) p0.AZ), .AL rp0_15 136 (AL (eP AB) p0.Ac), .obj bp0_16 (.cells none 2 [AI rp0_16_0 p0.Ad.l_.length, Ai p0.Ad.Ba]), .AL rp0_16_0 142 (AL (eP AK) p0.Ad.l_), .obj bp0_17 (.cells none 2 ([Ai p0.Ap.n_, Ai p0.Ap.Aq] ++ (Cl 257 (AA.int .i64) p0.Ap.BJ ++ []))), .obj bp2 (.cells none 2 [.map (some bp2_0)]), .obj bp2_0 (.map 2 (BR (fun k : List UInt8 => .str k) (fun v : Bool => .bool v) p2.DT))] F) (hc : BI (cfg.still 15) av = [.ptr (some (bp0, 0)), .agg (AD p1), .ptr (some (bp2, 0))] := by kernel_rfl) : ∃ v h', BL cfg g h 15 av v h' ∧ v = .tuple [.agg (AD q0), Ai q1, Ai q2] ∧ HH g h' [.obj bp0 (.cells none 2 [vs AE p0.c_.Ah, vs AE p0.c_.Aj, vs AJ p0.c_.Bl, .bool p0.c_.Ho, .bool p0.c_.BP, Ai p0.c_.Bm, .bool p0.c_.CC, Ai p0.c_.BD.DF, Ai p0.c_.BD.Bp, Ai p0.c_.HG, Ai p0.c_.B3, Ai p0.c_.Name, Ai p0.c_.Head, Ai p0.c_.Bd, AI rp0_14 p0.AZ.length, AI rp0_15 p0.Ac.length, .ptr (some (bp0_16, 0)), .ptr (some (bp0_17, 0))]), .AL rp0_14 136 (AL (eP AB) p0.AZ), .AL rp0_15 136 (AL (eP AB) p0.Ac), .obj bp0_16 (.cells none 2 [AI rp0_16_0 p0.Ad.l_.length, Ai p0.Ad.Ba]), .AL rp0_16_0 142 (AL (eP AK) p0.Ad.l_), .obj bp0_17 (.cells none 2 ([Ai u5.n_, Ai u5.Aq] ++ (Cl 257 (AA.int .i64) u5.BJ ++ []))), .obj bp2 (.cells none 2 [.map (some bp2_0)]), .obj bp2_0 (.map 2 (BR (fun k : List UInt8 => .str k) (fun v : Bool => .bool v) p2.DT))] F := by
 refine Vz 83 [.cell 6 44, .tmp 7, .tmp 8] hc ?_
 clear hc
 unfold CO at hm
 refine bg 83 [(0, .ptr (some (bp0, 0))), (1, .agg (AD p1)), (2, .ptr (some (bp2, 0)))] fun fr H => ?_
 refine AG 6 ?_
 obtain ⟨h1, e1, A⟩ := A.pu (.cells none 2 [.ptr (some (bp0, 0))])
 refine BC 3 (.ptr (some (h.size, 0))) e1 H fun fr t H => ?_
 obtain ⟨h2, e2, A⟩ := A.pu (.cells none 2 (AD p1))
 refine BC 4 (.ptr (some (h1.size, 0))) e2 H fun fr t H => ?_
 obtain ⟨h3, e3, A⟩ := A.pu (.cells none 2 [.ptr (some (bp2, 0))])
 refine BC 5 (.ptr (some (h2.size, 0))) e3 H fun fr t H => ?_
 obtain ⟨h4, e4, A⟩ := A.pu (.cells none 2 [.str ([] : List UInt8), .str ([] : List UInt8), Ab 0, Ai 0, Ai 0, Ai 0, .str ([] : List UInt8), .str ([] : List UInt8), Ai 0, Ai 0, Ai 0, Ai 0, .slice none 0, .str ([] : List UInt8)])
 refine BC 6 (.ptr (some (h3.size, 0))) e4 H fun fr t H => ?_
 refine BT 2 [] 2 H fun fr H => AN 2 [(9, .func (.func 39) [] [.ptr (some (h2.size, 0)), .ptr (some (h.size, 0))])] H fun fr H => AQ (AG 12 (Eu 18 3 0 A H fun fr t H => ?_))
 refine AR 2 [(19, .func (.func 40) [.ptr (some (bp0, 0))] []), (20, .func (.func 39) [] [.ptr (some (h2.size, 0)), .ptr (some (h.size, 0))])] 21 3 0 A H fun fr t H => ?_
 refine AR 1 [(22, .func (.func 41) [.ptr (some (bp0, 0))] [])] 23 3 0 A H fun fr t H => ?_
 refine AR 1 [(24, .func (.func 42) [.ptr (some (bp0, 0))] [])] 25 3 0 A H fun fr t H => ?_
 refine AF 1 [(26, .func (.func 43) [.ptr (some (bp0, 0))] [])] H fun fr H => ?_
 obtain ⟨h5, e5⟩ : ∃ x, x = h4.push (.cells (some 48) 2 [.func (.func 40) [.ptr (some (bp0, 0))] [], .func (.func 39) [] [.ptr (some (h2.size, 0)), .ptr (some (h.size, 0))], .func (.func 41) [.ptr (some (bp0, 0))] [], .func (.func 42) [.ptr (some (bp0, 0))] [], .func (.func 43) [.ptr (some (bp0, 0))] []]) := ⟨_, rfl⟩
 replace A : HH g h5 [.obj h4.size (.cells (some 48) 2 [.func (.func 40) [.ptr (some (bp0, 0))] [], .func (.func 39) [] [.ptr (some (h2.size, 0)), .ptr (some (h.size, 0))], .func (.func 41) [.ptr (some (bp0, 0))] [], .func (.func 42) [.ptr (some (bp0, 0))] [], .func (.func 43) [.ptr (some (bp0, 0))] []]), .obj h3.size (.cells none 2 [.str ([] : List UInt8), .str ([] : List UInt8), Ab 0, Ai 0, Ai 0, Ai 0, .str ([] : List UInt8), .str ([] : List UInt8), Ai 0, Ai 0, Ai 0, Ai 0, .slice none 0, .str ([] : List UInt8)]), .obj h2.size (.cells none 2 [.ptr (some (bp2, 0))]), .obj h1.size (.cells none 2 (AD p1)), .obj h.size (.cells none 2 [.ptr (some (bp0, 0))]), _, _, _, _, _, _, _, _] F := (A.push _).to e5
 refine BC 27 (.slice (some (h4.size, 0)) 5) e5 H fun fr t H => ?_
 refine AN 2 [(28, Ai 5), (29, Ai 0)] H fun fr H => AX (id := 0) (by kernel_rfl) ?_
 refine Dn (by kernel_rfl) ?_
 refine AG 1 (AN 1 [(30, .bool true)] H fun fr H => AQ (Dd (x := .tmp 30) (by kernel_rfl) H (fun fr => by kernel_rfl) ?_))
 refine Be id (AQ (AX (id := 1) (by kernel_rfl) ?_))
 refine AG 3 (AR 1 [] 32 0 0 A H fun fr t H => ?_)
 refine BT 1 [(11, .func (.func 40) [.ptr (some (bp0, 0))] [])] 4 H fun fr H => As 1 [(33, .func (.func 40) [.ptr (some (bp0, 0))] [])] 34 _ _ H (fun fr => .of (Bs (by kernel_rfl) (A.GA 3 rfl (o := 0) (n := 14) ⟨Nat.le_of_ble_eq_true rfl, rfl⟩))) fun fr t H => ?_
 replace A : HH g h5 [_, _, _, _, _, _, _, _, _, _, _, _, _] F := ((((((A.front 10 rfl).front 10 rfl).front 10 rfl).front 10 rfl).front 10 rfl).front 10 rfl)
 obtain ⟨x1, hx, hm⟩ := bind_some hm
 obtain ⟨v1, h6, hr, rfl, A1⟩ := FL (av := [.ptr (some (bp0, 0)), .agg (AD p1)]) hx (A.cut 6)
 replace A : HH g h6 [.obj bp0 (.cells none 2 [_, _, _, _, _, _, _, _, _, _, _, _, _, _, _, _, _, _]), .AL rp0_14 136 (AL (eP AB) p0.AZ), .AL rp0_15 136 (AL (eP AB) p0.Ac), .obj bp0_16 (.cells none 2 [AI rp0_16_0 p0.Ad.l_.length, Ai p0.Ad.Ba]), .AL rp0_16_0 142 (AL (eP AK) p0.Ad.l_), .obj bp0_17 (.cells none 2 ([Ai p0.Ap.n_, Ai p0.Ap.Aq] ++ (Cl 257 (AA.int .i64) p0.Ap.BJ ++ []))), _, _, _, _, _, _, _] F := A.CL (n := 6) A1
 refine Ay 35 hr H fun fr t H => ?_
 refine BT 1 [(12, Ai x1)] 2 H fun fr H => AN 2 [(37, .bool (x1 != 0))] H fun fr H => Ak 37 H hm (fun hb hm H => ?_) fun hb hm H => ?_
 ·refine AG 5 ?_
  obtain ⟨h7, hx, A⟩ := A.s7 0 [.str ([] : List UInt8), .str ([] : List UInt8), Ab 0, Ai 0, Ai 0, Ai 0, .str ([] : List UInt8), .str ([] : List UInt8), Ai 0, Ai 0, Ai 0, Ai 0, .slice none 0, .str ([] : List UInt8)] [_, _, _, _, _, _, _, _, _, _, _, _, _, _]
  refine EL 2 [(39, Ai x1)] hx H fun fr t H => ?_
  refine AN 2 [(7, Ai x1), (8, Ai 0)] H fun fr H => AS ?_
  obtain ⟨rfl, rfl, rfl, rfl⟩ := J9 hm
  refine ⟨.inl rfl, .tuple [.agg [.str ([] : List UInt8), .str ([] : List UInt8), Ab 0, Ai 0, Ai 0, Ai 0, .str ([] : List UInt8), .str ([] : List UInt8), Ai 0, Ai 0, Ai 0, Ai 0, .slice none 0, .str ([] : List UInt8)], Ai x1, Ai 0], CA (.cell (rT H) (BS (by kernel_rfl) (by kernel_rfl) (A.la 7 0 14)) (.tmp (rT H) (.tmp (rT H) .nil))), ?_⟩
  refine ⟨.tuple [.agg [.str ([] : List UInt8), .str ([] : List UInt8), Ab 0, Ai 0, Ai 0, Ai 0, .str ([] : List UInt8), .str ([] : List UInt8), Ai 0, Ai 0, Ai 0, Ai 0, vs Af ([] : List Am), .str ([] : List UInt8)], Ai x1, Ai 0], h7, by first | rfl | (simp only [Hw, H6, Hs, Hv, Hz, H2, Hu, Hx, Ht, H4, Hr, F9, Fs, Fz, Fw, Fu, F7, F5, Option.map_some] <;> rfl), ?_⟩
  replace A := A.k8 0 1 2 3 4 5 11 12
  exact ⟨rfl, A⟩
 refine FH 2 id (Bi 2 [(3, .ptr (some (h.size, 0))), (4, .ptr (some (h1.size, 0))), (6, .ptr (some (h3.size, 0))), (27, .slice (some (h4.size, 0)) 5), (28, Ai 5), (29, Ai 1)] H fun fr H => BB id (Dn (by kernel_rfl) ?_))
 refine AG 1 (AN 1 [(30, .bool true)] H fun fr H => AQ (Dd (x := .tmp 30) (by kernel_rfl) H (fun fr => by kernel_rfl) ?_))
 refine Be id (AQ (AX (id := 1) (by kernel_rfl) ?_))
 refine AG 3 (AR 1 [] 32 6 1 A H fun fr t H => ?_)
 refine BT 1 [(11, .func (.func 39) [] [.ptr (some (h2.size, 0)), .ptr (some (h.size, 0))])] 4 H fun fr H => As 1 [(33, .func (.func 39) [] [.ptr (some (h2.size, 0)), .ptr (some (h.size, 0))])] 34 _ _ H (fun fr => .of (Bs (by kernel_rfl) (A.GA 9 rfl (o := 0) (n := 14) ⟨Nat.le_of_ble_eq_true rfl, rfl⟩))) fun fr t H => ?_
 replace A : HH g h6 [_, _, _, _, _, _, _, _, _, _, _, _, _] F := ((((((((((A.front 5 rfl).front 5 rfl).front 5 rfl).front 5 rfl).front 5 rfl).front 5 rfl).front 10 rfl).front 12 rfl).front 12 rfl).front 11 rfl)
 obtain ⟨x2, hx, hm⟩ := bind_some hm
 obtain ⟨v1, h8, hr, rfl, A1⟩ := Gq (av := [.agg (AD p1), .ptr (some (h2.size, 0)), .ptr (some (h.size, 0))]) hx (A.cut 10)
 replace A : HH g h8 [.obj h2.size (.cells none 2 [.ptr (some (bp2, 0))]), .obj bp2 (.cells none 2 [.map (some bp2_0)]), .obj bp2_0 (.map 2 (BR (fun k : List UInt8 => .str k) (fun v : Bool => .bool v) p2.DT)), .obj h.size (.cells none 2 [.ptr (some (bp0, 0))]), .obj bp0 (.cells none 2 [_, _, _, _, _, _, _, _, _, _, _, _, _, _, _, _, _, _]), .AL rp0_14 136 (AL (eP AB) p0.AZ), .AL rp0_15 136 (AL (eP AB) p0.Ac), .obj bp0_16 (.cells none 2 [AI rp0_16_0 p0.Ad.l_.length, Ai p0.Ad.Ba]), .AL rp0_16_0 142 (AL (eP AK) p0.Ad.l_), .obj bp0_17 (.cells none 2 ([Ai p0.Ap.n_, Ai p0.Ap.Aq] ++ (Cl 257 (AA.int .i64) p0.Ap.BJ ++ []))), _, _, _] F := A.CL (n := 10) A1
 refine Ay 35 hr H fun fr t H => ?_
 refine BT 1 [(12, Ai x2)] 2 H fun fr H => AN 2 [(37, .bool (x2 != 0))] H fun fr H => Ak 37 H hm (fun hb hm H => ?_) fun hb hm H => ?_
 ·refine AG 5 ?_
  obtain ⟨h9, hx, A1⟩ := A.st 11 rfl (o := 0) (new := [.str ([] : List UInt8), .str ([] : List UInt8), Ab 0, Ai 0, Ai 0, Ai 0, .str ([] : List UInt8), .str ([] : List UInt8), Ai 0, Ai 0, Ai 0, Ai 0, .slice none 0, .str ([] : List UInt8)]) (ds := [.str ([] : List UInt8), .str ([] : List UInt8), Ab 0, Ai 0, Ai 0, Ai 0, .str ([] : List UInt8), .str ([] : List UInt8), Ai 0, Ai 0, Ai 0, Ai 0, .slice none 0, .str ([] : List UInt8)]) (Nat.le_of_ble_eq_true rfl) rfl rfl
  replace A : HH g h9 [_, _, _, _, _, _, _, _, _, _, _, _, _] F := A1
  refine EL 2 [(39, Ai x2)] hx H fun fr t H => ?_
  refine AN 2 [(7, Ai x2), (8, Ai 0)] H fun fr H => AS ?_
  obtain ⟨rfl, rfl, rfl, rfl⟩ := J9 hm
  refine ⟨.inl rfl, .tuple [.agg [.str ([] : List UInt8), .str ([] : List UInt8), Ab 0, Ai 0, Ai 0, Ai 0, .str ([] : List UInt8), .str ([] : List UInt8), Ai 0, Ai 0, Ai 0, Ai 0, .slice none 0, .str ([] : List UInt8)], Ai x2, Ai 0], CA (.cell (rT H) (BS (by kernel_rfl) (by kernel_rfl) (A.la 11 0 14)) (.tmp (rT H) (.tmp (rT H) .nil))), ?_⟩
  refine ⟨.tuple [.agg [.str ([] : List UInt8), .str ([] : List UInt8), Ab 0, Ai 0, Ai 0, Ai 0, .str ([] : List UInt8), .str ([] : List UInt8), Ai 0, Ai 0, Ai 0, Ai 0, vs Af ([] : List Am), .str ([] : List UInt8)], Ai x2, Ai 0], h9, by first | rfl | (simp only [Hw, H6, Hs, Hv, Hz, H2, Hu, Hx, Ht, H4, Hr, F9, Fs, Fz, Fw, Fu, F7, F5, Option.map_some] <;> rfl), ?_⟩
  replace A := A.k8 4 5 6 7 8 9 1 2
  exact ⟨rfl, A⟩
 refine FH 2 id (Bi 2 [(3, .ptr (some (h.size, 0))), (4, .ptr (some (h1.size, 0))), (6, .ptr (some (h3.size, 0))), (27, .slice (some (h4.size, 0)) 5), (28, Ai 5), (29, Ai 2)] H fun fr H => BB id (Dn (by kernel_rfl) ?_))
 refine AG 1 (AN 1 [(30, .bool true)] H fun fr H => AQ (Dd (x := .tmp 30) (by kernel_rfl) H (fun fr => by kernel_rfl) ?_))
 refine Be id (AQ (AX (id := 1) (by kernel_rfl) ?_))
 refine AG 3 (AR 1 [] 32 10 2 A H fun fr t H => ?_)
 refine BT 1 [(11, .func (.func 41) [.ptr (some (bp0, 0))] [])] 4 H fun fr H => As 1 [(33, .func (.func 41) [.ptr (some (bp0, 0))] [])] 34 _ _ H (fun fr => .of (Bs (by kernel_rfl) (A.GA 12 rfl (o := 0) (n := 14) ⟨Nat.le_of_ble_eq_true rfl, rfl⟩))) fun fr t H => ?_
 replace A : HH g h8 [_, _, _, _, _, _, _, _, _, _, _, _, _] F := ((((((A.front 9 rfl).front 9 rfl).front 9 rfl).front 9 rfl).front 9 rfl).front 9 rfl)
 obtain ⟨x3, hx, hm⟩ := bind_some hm
 obtain ⟨v1, h10, hr, rfl, A1⟩ := FZ (av := [.ptr (some (bp0, 0)), .agg (AD p1)]) hx (A.cut 6)
 replace A : HH g h10 [.obj bp0 (.cells none 2 [_, _, _, _, _, _, _, _, _, _, _, _, _, _, _, _, _, _]), .AL rp0_14 136 (AL (eP AB) p0.AZ), .AL rp0_15 136 (AL (eP AB) p0.Ac), .obj bp0_16 (.cells none 2 [AI rp0_16_0 p0.Ad.l_.length, Ai p0.Ad.Ba]), .AL rp0_16_0 142 (AL (eP AK) p0.Ad.l_), .obj bp0_17 (.cells none 2 ([Ai p0.Ap.n_, Ai p0.Ap.Aq] ++ (Cl 257 (AA.int .i64) p0.Ap.BJ ++ []))), _, _, _, _, _, _, _] F := A.CL (n := 6) A1
 refine Ay 35 hr H fun fr t H => ?_
 refine BT 1 [(12, Ai x3)] 2 H fun fr H => AN 2 [(37, .bool (x3 != 0))] H fun fr H => Ak 37 H hm (fun hb hm H => ?_) fun hb hm H => ?_
 ·refine AG 5 ?_
  obtain ⟨h11, hx, A1⟩ := A.st 11 rfl (o := 0) (new := [.str ([] : List UInt8), .str ([] : List UInt8), Ab 0, Ai 0, Ai 0, Ai 0, .str ([] : List UInt8), .str ([] : List UInt8), Ai 0, Ai 0, Ai 0, Ai 0, .slice none 0, .str ([] : List UInt8)]) (ds := [.str ([] : List UInt8), .str ([] : List UInt8), Ab 0, Ai 0, Ai 0, Ai 0, .str ([] : List UInt8), .str ([] : List UInt8), Ai 0, Ai 0, Ai 0, Ai 0, .slice none 0, .str ([] : List UInt8)]) (Nat.le_of_ble_eq_true rfl) rfl rfl
  replace A : HH g h11 [_, _, _, _, _, _, _, _, _, _, _, _, _] F := A1
  refine EL 2 [(39, Ai x3)] hx H fun fr t H => ?_
  refine AN 2 [(7, Ai x3), (8, Ai 0)] H fun fr H => AS ?_
  obtain ⟨rfl, rfl, rfl, rfl⟩ := J9 hm
  refine ⟨.inl rfl, .tuple [.agg [.str ([] : List UInt8), .str ([] : List UInt8), Ab 0, Ai 0, Ai 0, Ai 0, .str ([] : List UInt8), .str ([] : List UInt8), Ai 0, Ai 0, Ai 0, Ai 0, .slice none 0, .str ([] : List UInt8)], Ai x3, Ai 0], CA (.cell (rT H) (BS (by kernel_rfl) (by kernel_rfl) (A.la 11 0 14)) (.tmp (rT H) (.tmp (rT H) .nil))), ?_⟩
  refine ⟨.tuple [.agg [.str ([] : List UInt8), .str ([] : List UInt8), Ab 0, Ai 0, Ai 0, Ai 0, .str ([] : List UInt8), .str ([] : List UInt8), Ai 0, Ai 0, Ai 0, Ai 0, vs Af ([] : List Am), .str ([] : List UInt8)], Ai x3, Ai 0], h11, by first | rfl | (simp only [Hw, H6, Hs, Hv, Hz, H2, Hu, Hx, Ht, H4, Hr, F9, Fs, Fz, Fw, Fu, F7, F5, Option.map_some] <;> rfl), ?_⟩
  replace A := A.k8 0 1 2 3 4 5 7 8
  exact ⟨rfl, A⟩
 refine FH 2 id (Bi 2 [(3, .ptr (some (h.size, 0))), (4, .ptr (some (h1.size, 0))), (6, .ptr (some (h3.size, 0))), (27, .slice (some (h4.size, 0)) 5), (28, Ai 5), (29, Ai 3)] H fun fr H => BB id (Dn (by kernel_rfl) ?_))
 refine AG 1 (AN 1 [(30, .bool true)] H fun fr H => AQ (Dd (x := .tmp 30) (by kernel_rfl) H (fun fr => by kernel_rfl) ?_))
 refine Be id (AQ (AX (id := 1) (by kernel_rfl) ?_))
 refine AG 3 (AR 1 [] 32 10 3 A H fun fr t H => ?_)
 refine BT 1 [(11, .func (.func 42) [.ptr (some (bp0, 0))] [])] 4 H fun fr H => As 1 [(33, .func (.func 42) [.ptr (some (bp0, 0))] [])] 34 _ _ H (fun fr => .of (Bs (by kernel_rfl) (A.GA 12 rfl (o := 0) (n := 14) ⟨Nat.le_of_ble_eq_true rfl, rfl⟩))) fun fr t H => ?_
 obtain ⟨⟨x4, x5⟩, hx, hm⟩ := bind_some hm
 obtain ⟨v1, h12, hr, rfl, A1⟩ := Ex (av := [.ptr (some (bp0, 0)), .agg (AD p1)]) hx (A.cut 6)
 replace A : HH g h12 [.obj bp0 (.cells none 2 [_, _, _, _, _, _, _, _, _, _, _, _, _, _, _, _, _, _]), .AL rp0_14 136 (AL (eP AB) p0.AZ), .AL rp0_15 136 (AL (eP AB) p0.Ac), .obj bp0_16 (.cells none 2 [AI rp0_16_0 p0.Ad.l_.length, Ai p0.Ad.Ba]), .AL rp0_16_0 142 (AL (eP AK) p0.Ad.l_), .obj bp0_17 (.cells none 2 ([Ai x5.n_, Ai x5.Aq] ++ (Cl 257 (AA.int .i64) x5.BJ ++ []))), _, _, _, _, _, _, _] F := A.CL (n := 6) A1
 refine Ay 35 hr H fun fr t H => ?_
 refine BT 1 [(12, Ai x4)] 2 H fun fr H => AN 2 [(37, .bool (x4 != 0))] H fun fr H => Ak 37 H hm (fun hb hm H => ?_) fun hb hm H => ?_
 ·refine AG 5 ?_
  obtain ⟨h13, hx, A1⟩ := A.st 11 rfl (o := 0) (new := [.str ([] : List UInt8), .str ([] : List UInt8), Ab 0, Ai 0, Ai 0, Ai 0, .str ([] : List UInt8), .str ([] : List UInt8), Ai 0, Ai 0, Ai 0, Ai 0, .slice none 0, .str ([] : List UInt8)]) (ds := [.str ([] : List UInt8), .str ([] : List UInt8), Ab 0, Ai 0, Ai 0, Ai 0, .str ([] : List UInt8), .str ([] : List UInt8), Ai 0, Ai 0, Ai 0, Ai 0, .slice none 0, .str ([] : List UInt8)]) (Nat.le_of_ble_eq_true rfl) rfl rfl
  replace A : HH g h13 [_, _, _, _, _, _, _, _, _, _, _, _, _] F := A1
  refine EL 2 [(39, Ai x4)] hx H fun fr t H => ?_
  refine AN 2 [(7, Ai x4), (8, Ai 0)] H fun fr H => AS ?_
  obtain ⟨rfl, rfl, rfl, rfl⟩ := J9 hm
  refine ⟨.inl rfl, .tuple [.agg [.str ([] : List UInt8), .str ([] : List UInt8), Ab 0, Ai 0, Ai 0, Ai 0, .str ([] : List UInt8), .str ([] : List UInt8), Ai 0, Ai 0, Ai 0, Ai 0, .slice none 0, .str ([] : List UInt8)], Ai x4, Ai 0], CA (.cell (rT H) (BS (by kernel_rfl) (by kernel_rfl) (A.la 11 0 14)) (.tmp (rT H) (.tmp (rT H) .nil))), ?_⟩
  refine ⟨.tuple [.agg [.str ([] : List UInt8), .str ([] : List UInt8), Ab 0, Ai 0, Ai 0, Ai 0, .str ([] : List UInt8), .str ([] : List UInt8), Ai 0, Ai 0, Ai 0, Ai 0, vs Af ([] : List Am), .str ([] : List UInt8)], Ai x4, Ai 0], h13, by first | rfl | (simp only [Hw, H6, Hs, Hv, Hz, H2, Hu, Hx, Ht, H4, Hr, F9, Fs, Fz, Fw, Fu, F7, F5, Option.map_some] <;> rfl), ?_⟩
  replace A := A.k8 0 1 2 3 4 5 7 8
  exact ⟨rfl, A⟩
 refine FH 2 id (Bi 2 [(3, .ptr (some (h.size, 0))), (4, .ptr (some (h1.size, 0))), (6, .ptr (some (h3.size, 0))), (27, .slice (some (h4.size, 0)) 5), (28, Ai 5), (29, Ai 4)] H fun fr H => BB id (Dn (by kernel_rfl) ?_))
 refine AG 1 (AN 1 [(30, .bool true)] H fun fr H => AQ (Dd (x := .tmp 30) (by kernel_rfl) H (fun fr => by kernel_rfl) ?_))
 refine Be id (AQ (AX (id := 1) (by kernel_rfl) ?_))
 refine AG 3 (AR 1 [] 32 10 4 A H fun fr t H => ?_)
 refine BT 1 [(11, .func (.func 43) [.ptr (some (bp0, 0))] [])] 4 H fun fr H => As 1 [(33, .func (.func 43) [.ptr (some (bp0, 0))] [])] 34 _ _ H (fun fr => .of (Bs (by kernel_rfl) (A.GA 12 rfl (o := 0) (n := 14) ⟨Nat.le_of_ble_eq_true rfl, rfl⟩))) fun fr t H => ?_
 obtain ⟨x6, hx, hm⟩ := bind_some hm
 obtain ⟨v1, h14, hr, rfl, A1⟩ := FB (av := [.ptr (some (bp0, 0)), .agg (AD p1)]) hx (A.cut 6)
 replace A : HH g h14 [.obj bp0 (.cells none 2 [_, _, _, _, _, _, _, _, _, _, _, _, _, _, _, _, _, _]), .AL rp0_14 136 (AL (eP AB) p0.AZ), .AL rp0_15 136 (AL (eP AB) p0.Ac), .obj bp0_16 (.cells none 2 [AI rp0_16_0 p0.Ad.l_.length, Ai p0.Ad.Ba]), .AL rp0_16_0 142 (AL (eP AK) p0.Ad.l_), .obj bp0_17 (.cells none 2 ([Ai x5.n_, Ai x5.Aq] ++ (Cl 257 (AA.int .i64) x5.BJ ++ []))), _, _, _, _, _, _, _] F := A.CL (n := 6) A1
 refine Ay 35 hr H fun fr t H => ?_
 refine BT 1 [(12, Ai x6)] 2 H fun fr H => AN 2 [(37, .bool (x6 != 0))] H fun fr H => Ak 37 H hm (fun hb hm H => ?_) fun hb hm H => ?_
 ·refine AG 5 ?_
  obtain ⟨h15, hx, A1⟩ := A.st 11 rfl (o := 0) (new := [.str ([] : List UInt8), .str ([] : List UInt8), Ab 0, Ai 0, Ai 0, Ai 0, .str ([] : List UInt8), .str ([] : List UInt8), Ai 0, Ai 0, Ai 0, Ai 0, .slice none 0, .str ([] : List UInt8)]) (ds := [.str ([] : List UInt8), .str ([] : List UInt8), Ab 0, Ai 0, Ai 0, Ai 0, .str ([] : List UInt8), .str ([] : List UInt8), Ai 0, Ai 0, Ai 0, Ai 0, .slice none 0, .str ([] : List UInt8)]) (Nat.le_of_ble_eq_true rfl) rfl rfl
  replace A : HH g h15 [_, _, _, _, _, _, _, _, _, _, _, _, _] F := A1
  refine EL 2 [(39, Ai x6)] hx H fun fr t H => ?_
  refine AN 2 [(7, Ai x6), (8, Ai 0)] H fun fr H => AS ?_
  obtain ⟨rfl, rfl, rfl, rfl⟩ := J9 hm
  refine ⟨.inl rfl, .tuple [.agg [.str ([] : List UInt8), .str ([] : List UInt8), Ab 0, Ai 0, Ai 0, Ai 0, .str ([] : List UInt8), .str ([] : List UInt8), Ai 0, Ai 0, Ai 0, Ai 0, .slice none 0, .str ([] : List UInt8)], Ai x6, Ai 0], CA (.cell (rT H) (BS (by kernel_rfl) (by kernel_rfl) (A.la 11 0 14)) (.tmp (rT H) (.tmp (rT H) .nil))), ?_⟩
  refine ⟨.tuple [.agg [.str ([] : List UInt8), .str ([] : List UInt8), Ab 0, Ai 0, Ai 0, Ai 0, .str ([] : List UInt8), .str ([] : List UInt8), Ai 0, Ai 0, Ai 0, Ai 0, vs Af ([] : List Am), .str ([] : List UInt8)], Ai x6, Ai 0], h15, by first | rfl | (simp only [Hw, H6, Hs, Hv, Hz, H2, Hu, Hx, Ht, H4, Hr, F9, Fs, Fz, Fw, Fu, F7, F5, Option.map_some] <;> rfl), ?_⟩
  replace A := A.k8 0 1 2 3 4 5 7 8
  exact ⟨rfl, A⟩
 refine FH 2 id (Bi 2 [(3, .ptr (some (h.size, 0))), (4, .ptr (some (h1.size, 0))), (6, .ptr (some (h3.size, 0))), (27, .slice (some (h4.size, 0)) 5), (28, Ai 5), (29, Ai 5)] H fun fr H => BB id (Dn (by kernel_rfl) ?_))
 refine AG 1 (AN 1 [(30, .bool false)] H fun fr H => AQ (Kw (x := .tmp 30) (by kernel_rfl) H (fun fr => by kernel_rfl) ?_))
 refine Bn (i := 0) (by kernel_rfl) ?_
 show AW _ _ _ _ _ _ _
 refine AQ (EZ 9 13 ?_)
 refine AR 1 [] 43 12 0 A H fun fr t H => ?_
 refine Eu 44 9 0 A H fun fr t H => ?_
 refine AR 3 [] 48 0 10 A H fun fr t H => ?_
 obtain ⟨⟨x7, x8⟩, hx, hm⟩ := bind_some hm
 obtain ⟨v1, h16, hr, rfl, A1⟩ := Fp (av := [.str p1.Name, Ai p0.c_.B3]) hx (A.cut 0)
 replace A := A.EV A1
 refine Ay 49 hr H fun fr t H => ?_
 obtain ⟨h17, hx, A1⟩ := A.st 12 rfl (o := 0) (new := [.str x7]) (ds := (Cw p1 (.str x7))) (Nat.le_of_ble_eq_true rfl) rfl rfl
 replace A : HH g h17 [_, _, _, _, _, _, _, _, _, _, _, _, .obj h1.size (.cells none 2 (Cw p1 (.str x7)))] F := A1
 refine E8 4 [] hx H fun fr t H => ?_
 refine BB id (AQ ?_)
 obtain ⟨o1, ho, hm⟩ := bind_some hm
 refine BM (Q' := fun e fr' h' => (∃ x9, e = .normal ∧ x9 = o1 ∧ Has fr' 83 [(3, .ptr (some (h.size, 0))), (4, .ptr (some (h1.size, 0))), (6, .ptr (some (h3.size, 0)))] ∧ HH g h' [.obj bp0 (.cells none 2 [vs AE p0.c_.Ah, vs AE p0.c_.Aj, vs AJ p0.c_.Bl, .bool p0.c_.Ho, .bool p0.c_.BP, Ai p0.c_.Bm, .bool p0.c_.CC, Ai p0.c_.BD.DF, Ai p0.c_.BD.Bp, Ai p0.c_.HG, Ai p0.c_.B3, Ai p0.c_.Name, Ai p0.c_.Head, Ai p0.c_.Bd, AI rp0_14 p0.AZ.length, AI rp0_15 p0.Ac.length, .ptr (some (bp0_16, 0)), .ptr (some (bp0_17, 0))]), .AL rp0_14 136 (AL (eP AB) p0.AZ), .AL rp0_15 136 (AL (eP AB) p0.Ac), .obj bp0_16 (.cells none 2 [AI rp0_16_0 p0.Ad.l_.length, Ai p0.Ad.Ba]), .AL rp0_16_0 142 (AL (eP AK) p0.Ad.l_), .obj bp0_17 (.cells none 2 ([Ai x5.n_, Ai x5.Aq] ++ (Cl 257 (AA.int .i64) x5.BJ ++ []))), .obj h2.size (.cells none 2 [.ptr (some (bp2, 0))]), .obj bp2 (.cells none 2 [.map (some bp2_0)]), .obj bp2_0 (.map 2 (BR (fun k : List UInt8 => .str k) (fun v : Bool => .bool v) p2.DT)), .obj h.size (.cells none 2 [.ptr (some (bp0, 0))]), .obj h4.size (.cells (some 48) 2 [.func (.func 40) [.ptr (some (bp0, 0))] [], .func (.func 39) [] [.ptr (some (h2.size, 0)), .ptr (some (h.size, 0))], .func (.func 41) [.ptr (some (bp0, 0))] [], .func (.func 42) [.ptr (some (bp0, 0))] [], .func (.func 43) [.ptr (some (bp0, 0))] []]), .obj h3.size (.cells none 2 [.str ([] : List UInt8), .str ([] : List UInt8), Ab 0, Ai 0, Ai 0, Ai 0, .str ([] : List UInt8), .str ([] : List UInt8), Ai 0, Ai 0, Ai 0, Ai 0, .slice none 0, .str ([] : List UInt8)]), .obj h1.size (.cells none 2 (A9 p1 (.str x7) (.str x9)))] F) ∨ False) ?_ ?_
 ·replace hm := ho
  clear ho
  refine AQ (EZ 10 13 ?_)
  refine AR 1 [] 55 12 1 A H fun fr t H => ?_
  refine Eu 56 9 0 A H fun fr t H => ?_
  refine AR 3 [] 60 0 10 A H fun fr t H => ?_
  obtain ⟨⟨x10, x11⟩, hx, hm⟩ := bind_some hm
  obtain ⟨v1, h18, hr, rfl, A1⟩ := Fp (av := [.str p1.Bf, Ai p0.c_.B3]) hx (A.cut 0)
  replace A := A.EV A1
  refine Ay 61 hr H fun fr t H => ?_
  refine BT 5 [(13, .str x10), (14, .bool x11)] 6 H fun fr H => AF 2 [(65, .bool x11)] H fun fr H => An 4 (fun fr' h' => h18 = h' ∧ Has fr' 83 [(3, .ptr (some (h.size, 0))), (4, .ptr (some (h1.size, 0))), (6, .ptr (some (h3.size, 0))), (13, .str x10), (69, .bool (x11 && (p1.Kind == 49)))]) ?_ ?_
  ·cases hb : (x11 : Bool) with
   | true =>
    replace H := H.kn 65 hb
    refine AR 1 [] 67 12 2 A H fun fr t H => ?_
    exact AF 2 [(69, .bool (p1.Kind == 49))] H fun fr H => AY H hb
   | false =>
    replace H := H.kn 65 hb
    exact AF 4 [(69, .bool false)] H fun fr H => AY H hb
  intro t fr h' hK
  obtain ⟨e, H⟩ := hK
  subst e
  refine BB id (Ak 69 H hm (fun hb hm H => ?_) fun hb hm H => ?_)
  ·refine EW 3 ?_
   obtain ⟨h19, hx, A1⟩ := A.st 12 rfl (o := 1) (new := [.str x10]) (ds := (A9 p1 (.str x7) (.str x10))) (Nat.le_of_ble_eq_true rfl) rfl rfl
   replace A : HH g h19 [_, _, _, _, _, _, _, _, _, _, _, _, .obj h1.size (.cells none 2 [_, .str x10, _, _, _, _, _, _, _, _, _, _, _, _])] F := A1
   refine E8 2 [] hx H fun fr t H => ?_
   refine at_nil ?_
   exact .inl ⟨_, rfl, Aa hm, H.ls, A⟩
  exact IG (.inl ⟨_, rfl, Aa hm, H.ls, A⟩)
 clear ho
 clear A
 intro e fr h20 hQ
 rcases hQ with ⟨x9, rfl, rfl, H, A⟩ | hF
 ·show AW _ _ _ _ _ _ _
  refine AQ (Jk 13 12 [(0, []), (1, []), (2, []), (3, []), (4, []), (9, []), (5, [9]), (6, []), (7, []), (8, []), (10, []), (11, [])] ?_)
  refine B0 73 (.ptr (some (bp0, 0))) h20 [(0, h.size)] (g.BU) H (fun fr => .of (Dj (by kernel_rfl) (A.l1 9 0))) (fun fr H => ?_)
  refine AF 2 [(75, .ptr (some (bp0, 16)))] H fun fr H => B0 76 (.ptr (some (bp0_16, 0))) h20 [(3, bp0), (0, h.size)] (g.BU) H (fun fr => .of (Dj (by kernel_rfl) (A.l1 0 16))) (fun fr H => ?_)
  refine B0 77 (.agg (A9 p1 (.str x7) (.str x9))) h20 [(4, h1.size), (3, bp0), (0, h.size)] (g.BU) H (fun fr => .of (Bs (by kernel_rfl) (A.la 12 0 14))) (fun fr H => ?_)
  obtain ⟨h21, e6, A⟩ := A.pu (.cells none 2 [.str ([] : List UInt8), .str ([] : List UInt8), Ab 0, Ai 0, Ai 0, Ai 0, .str ([] : List UInt8), .str ([] : List UInt8), Ai 0, Ai 0, Ai 0, Ai 0, .slice none 0, .str ([] : List UInt8)])
  refine B0 15 (.ptr (some (h20.size, 0))) h21 [(9, h20.size), (4, h1.size), (3, bp0), (0, h.size)] (g.BU) H (fun fr => .of (Qk (by kernel_rfl) (congrArg some e6.symm))) (fun fr H => ?_)
  replace A : HH g h21 [_, _, .obj h20.size (.cells none 2 [.str ([] : List UInt8), .str ([] : List UInt8), Ab 0, Ai 0, Ai 0, Ai 0, .str ([] : List UInt8), .str ([] : List UInt8), Ai 0, Ai 0, Ai 0, Ai 0, .slice none 0, .str ([] : List UInt8)]), _, _, _, _, _, _, _, _, _, _, _] F := ((A.front 5 rfl).front 5 rfl)
  have A1 := A.Gm 2 (pr := [h20.size]) (.cons 0 rfl (by simp [Ck.ids]) .nil)
  obtain ⟨⟨x12, x13⟩, hx, hm⟩ := bind_some hm
  obtain ⟨v1, h22, hr, rfl, A1⟩ := Fo (av := [.ptr (some (bp0_16, 0)), .agg (A9 p1 (.str x7) (.str x9))]) hx A1
  replace A := A.Xc A1
  refine B0 78 (.tuple [.agg (AD x12), Ai x13]) h22 [(9, h20.size), (4, h1.size), (3, bp0), (0, h.size)] (h20.size :: g.BU) H (fun fr => Steps.call (by kernel_rfl) hr) (fun fr H => ?_)
  refine AF 3 [(79, .agg (AD x12)), (80, Ai x13)] H fun fr H => ?_
  obtain ⟨h23, hx, A⟩ := A.s2 0 (AD x12) [_, _, _, _, _, _, _, _, _, _, _, _, _, _]
  refine K2 (.tuple []) h23 [(9, h20.size), (4, h1.size), (3, bp0), (0, h.size)] (g.BU) H (fun fr => .of (Nr (by kernel_rfl) (Lj hx rfl))) (fun fr H => ?_)
  refine BT 1 [(16, Ai x13)] 5 H fun fr H => Az 81 _ _ H (fun fr => .of (Bs (by kernel_rfl) (A.GA 2 rfl (o := 0) (n := 14) ⟨Nat.le_of_ble_eq_true rfl, rfl⟩))) fun fr t H => ?_
  obtain ⟨h24, hx, A1⟩ := A.st 12 rfl (o := 0) (new := (AD x12)) (ds := (AD x12)) (Nat.le_of_ble_eq_true rfl) rfl rfl
  replace A : HH g h24 [_, _, _, _, _, _, _, _, _, _, _, _, .obj h3.size (.cells none 2 (AD x12)), _] F := A1
  refine EL 1 [(82, Ai x13)] hx H fun fr t H => ?_
  refine AN 2 [(7, Ai 0), (8, Ai x13)] H fun fr H => AS ?_
  obtain ⟨rfl, rfl, rfl, rfl⟩ := J9 hm
  refine ⟨.inl rfl, .tuple [.agg (AD x12), Ai 0, Ai x13], CA (.cell (rT H) (BS (by kernel_rfl) (by kernel_rfl) (A.la 12 0 14)) (.tmp (rT H) (.tmp (rT H) .nil))), ?_⟩
  refine ⟨.tuple [.agg (AD x12), Ai 0, Ai x13], h24, by first | rfl | (simp only [Hw, H6, Hs, Hv, Hz, H2, Hu, Hx, Ht, H4, Hr, F9, Fs, Fz, Fw, Fu, F7, F5, Option.map_some] <;> rfl), ?_⟩
  replace A := A.k8 3 4 5 0 1 6 8 9
  exact ⟨rfl, A⟩
 exact hF.elim
def G5 (p0 : List Am) (p1 : List Am) (s : Int) : Option ((Int) ⊕ ((Unit) ⊕ (Bool))) :=
 match s with
 | x1 => Ae (decide (x1 < (p0.length : Int))) ((HR p0 x1).bind fun x3 => (HR p1 x1).bind fun x4 => (SZ cfg.P 90 [.str x3.Key, .str x3.Value] [.str x4.Key, .str x4.Value]).bind fun x5 => Ae (!x5) (some (.inr (.inr false))) (some (.inl (IntKind.i64.wrap (x1 + 1))))) (some (.inr (.inl ())))
def Dx (p0 : List Am) (p1 : List Am) : Option (Bool) :=
 Ae ((p0.length : Int) != (p1.length : Int)) (some false) ((loop (G5 p0 p1) (0 : Int)).bind fun o1 => (match o1 with | .inl _ => some true | .inr x2 => some x2))
theorem Kh {p0 p1 q0} (hm : Dx p0 p1 = some q0) (A : HH g h [] F) (hc : BI (cfg.still 48) av = [vs Af p0, vs Af p1] := by kernel_rfl) : ∃ v h', BL cfg g h 48 av v h' ∧ v = .bool q0 ∧ HH g h' [] F := by
 refine D5 26 [.tmp 4] hc ?_
 clear hc
 unfold Dx at hm
 refine bg 26 [(0, vs Af p0), (1, vs Af p1)] fun fr H => ?_
 refine AG 1 (AN 1 [] H fun fr H => AQ (AG 5 (AN 5 [(10, .bool ((p0.length : Int) != (p1.length : Int)))] H fun fr H => Ak 10 H hm (fun hb hm H => ?_) fun hb hm H => ?_)))
 ·refine AG 1 (AN 1 [(4, .bool false)] H fun fr H => AS ?_)
  obtain rfl := Aa hm
  exact ⟨.inl rfl, _, rH H, rfl, A⟩
 refine Be id (AQ (AG 1 (AN 1 [(5, Ai 0)] H fun fr H => AX (id := 0) (by kernel_rfl) ?_)))
 obtain ⟨o1, ho, hm⟩ := bind_some hm
 refine BM (Q' := fun e fr' h' => (e = .exit 0 ∧ .inl () = o1 ∧ Has fr' 26 [] ∧ HH g h' [] F) ∨ (∃ x2, e = .ret ∧ .inr x2 = o1 ∧ Has fr' 26 [(4, .bool x2)] ∧ HH g h' [] F) ∨ False) ?_ ?_
 ·refine B8 (by kernel_rfl) (fun (s : Int) fr' h' => ∃ x1, x1 = s ∧ Has fr' 26 [(0, vs Af p0), (1, vs Af p1), (5, Ai x1)] ∧ HH g h' [] F) ho ⟨_, rfl, H.ls, A⟩ ?_
  clear ho hm H A
  intro s q fr h1 hI hm
  obtain ⟨x1, rfl, H, A⟩ := hI
  unfold G5 at hm
  refine AQ (AG 4 (AN 4 [(14, .bool (decide (x1 < (p0.length : Int))))] H fun fr H => Ak 14 H hm (fun hb hm H => ?_) fun hb hm H => ?_))
  ·refine Be id (AQ (AX (id := 1) (by kernel_rfl) ?_))
   refine AQ (EZ 6 9 ?_)
   obtain ⟨x3, hx, hm⟩ := bind_some hm
   refine As 2 [] 19 (.A7 [.str x3.Key, .str x3.Value]) h1 H (fun fr => .of (I3 (e := Af) (x := x3) Bt (by decide) (by kernel_rfl) hx)) fun fr t H => ?_
   refine Az 20 (.agg [.str x3.Key, .str x3.Value]) h1 H (fun fr => .of (IQ (by kernel_rfl))) fun fr t H => ?_
   obtain ⟨x4, hx, hm⟩ := bind_some hm
   refine As 2 [] 23 (.A7 [.str x4.Key, .str x4.Value]) h1 H (fun fr => .of (I3 (e := Af) (x := x4) Bt (by decide) (by kernel_rfl) hx)) fun fr t H => ?_
   refine Az 24 (.agg [.str x4.Key, .str x4.Value]) h1 H (fun fr => .of (IQ (by kernel_rfl))) fun fr t H => ?_
   obtain ⟨x5, hx, hm⟩ := bind_some hm
   refine Az 25 (.bool (!x5)) h1 H (fun fr => .of (Vb (by kernel_rfl) hx)) fun fr t H => ?_
   refine BB id (Ak 25 H hm (fun hb hm H => ?_) fun hb hm H => ?_)
   ·refine AG 1 (AN 1 [(4, .bool false)] H fun fr H => AS ?_)
    exact nr hm fun e => Or.inr (.inl ⟨_, rfl, e, H.ls, A⟩)
   refine FH 3 id (Bi 3 [(0, vs Af p0), (1, vs Af p1), (5, Ai (IntKind.i64.wrap (x1 + 1)))] H fun fr H => at_nil ?_)
   exact nx hm ⟨_, rfl, H.ls, A⟩
  refine Bn (i := 0) (by kernel_rfl) ?_
  exact nr hm fun e => .inl ⟨rfl, e, H.ls, A⟩
 clear ho
 clear A
 intro e fr h2 hQ
 rcases hQ with ⟨rfl, rfl, H, A⟩ | ⟨x2, rfl, rfl, H, A⟩ | hF
 ·show AW _ _ _ _ _ _ _
  refine AG 1 (AN 1 [(4, .bool true)] H fun fr H => AS ?_)
  obtain rfl := Aa hm
  exact ⟨.inl rfl, _, rH H, rfl, A⟩
 ·obtain rfl := Aa hm
  exact ⟨.inl rfl, _, rH H, rfl, A⟩
 exact hF.elim
def DM (p0 : AV) (p1 : AV) : Option (Bool) :=
 (Ae ((((((((((p0.Name == p1.Name) && (p0.Bf == p1.Bf)) && (p0.Kind == p1.Kind)) && (p0.Mode == p1.Mode)) && (p0.Dm == p1.Dm)) && (p0.Eb == p1.Eb)) && (p0.CB == p1.CB)) && (p0.Ca == p1.Ca)) && (p0.CY == p1.CY)) && (p0.EX == p1.EX)) ((SZ cfg.P 23 [Ai p0.Time.DF, Ai p0.Time.Bp] [Ai p1.Time.DF, Ai p1.Time.Bp]).bind fun x2 => some x2) (some false) : Option (Bool)).bind fun x1 => (Ae x1 ((Dx p0.Extra p1.Extra).bind fun x4 => some x4) (some false) : Option (Bool)).bind fun x3 => some (x3 && (p0.Data == p1.Data))
theorem HX {p0 p1 q0} (hm : DM p0 p1 = some q0) (A : HH g h [] F) (hc : BI (cfg.still 17) av = [.agg (AD p0), .agg (AD p1)] := by kernel_rfl) : ∃ v h', BL cfg g h 17 av v h' ∧ v = .bool q0 ∧ HH g h' [] F := by
 refine D5 94 [.tmp 4] hc ?_
 clear hc
 unfold DM at hm
 refine bg 94 [(0, .agg (AD p0)), (1, .agg (AD p1))] fun fr H => ?_
 refine AG 3 ?_
 obtain ⟨h1, e1, A⟩ := A.pu (.cells none 2 (AD p0))
 refine BC 2 (.ptr (some (h.size, 0))) e1 H fun fr t H => ?_
 obtain ⟨h2, e2, A⟩ := A.pu (.cells none 2 (AD p1))
 refine BC 3 (.ptr (some (h1.size, 0))) e2 H fun fr t H => ?_
 refine BT 1 [] 90 H fun fr H => AR 1 [] 6 1 0 A H fun fr t H => ?_
 refine AR 1 [] 8 0 0 A H fun fr t H => ?_
 refine AF 2 [(10, .bool (p0.Name == p1.Name))] H fun fr H => An 6 (fun fr' h' => h2 = h' ∧ Has fr' 94 [(2, .ptr (some (h.size, 0))), (3, .ptr (some (h1.size, 0))), (16, .bool ((p0.Name == p1.Name) && (p0.Bf == p1.Bf)))]) ?_ ?_
 ·cases hb : (p0.Name == p1.Name : Bool) with
  | true =>
   replace H := H.kn 10 hb
   refine AR 1 [] 12 1 1 A H fun fr t H => ?_
   refine AR 1 [] 14 0 1 A H fun fr t H => ?_
   exact AF 2 [(16, .bool (p0.Bf == p1.Bf))] H fun fr H => AY H hb
  | false =>
   replace H := H.kn 10 hb
   exact AF 6 [(16, .bool false)] H fun fr H => AY H hb
 intro t fr h' hK
 obtain ⟨e, H⟩ := hK
 subst e
 refine AF 1 [(17, .bool ((p0.Name == p1.Name) && (p0.Bf == p1.Bf)))] H fun fr H => An 6 (fun fr' h' => h2 = h' ∧ Has fr' 94 [(2, .ptr (some (h.size, 0))), (3, .ptr (some (h1.size, 0))), (23, .bool (((p0.Name == p1.Name) && (p0.Bf == p1.Bf)) && (p0.Kind == p1.Kind)))]) ?_ ?_
 ·cases hb : ((p0.Name == p1.Name) && (p0.Bf == p1.Bf) : Bool) with
  | true =>
   replace H := H.kn 17 hb
   refine AR 1 [] 19 1 2 A H fun fr t H => ?_
   refine AR 1 [] 21 0 2 A H fun fr t H => ?_
   exact AF 2 [(23, .bool (p0.Kind == p1.Kind))] H fun fr H => AY H hb
  | false =>
   replace H := H.kn 17 hb
   exact AF 6 [(23, .bool false)] H fun fr H => AY H hb
 intro t fr h' hK
 obtain ⟨e, H⟩ := hK
 subst e
 refine AF 1 [(24, .bool (((p0.Name == p1.Name) && (p0.Bf == p1.Bf)) && (p0.Kind == p1.Kind)))] H fun fr H => An 6 (fun fr' h' => h2 = h' ∧ Has fr' 94 [(2, .ptr (some (h.size, 0))), (3, .ptr (some (h1.size, 0))), (30, .bool ((((p0.Name == p1.Name) && (p0.Bf == p1.Bf)) && (p0.Kind == p1.Kind)) && (p0.Mode == p1.Mode)))]) ?_ ?_
 ·cases hb : (((p0.Name == p1.Name) && (p0.Bf == p1.Bf)) && (p0.Kind == p1.Kind) : Bool) with
  | true =>
   replace H := H.kn 24 hb
   refine AR 1 [] 26 1 3 A H fun fr t H => ?_
   refine AR 1 [] 28 0 3 A H fun fr t H => ?_
   exact AF 2 [(30, .bool (p0.Mode == p1.Mode))] H fun fr H => AY H hb
  | false =>
   replace H := H.kn 24 hb
   exact AF 6 [(30, .bool false)] H fun fr H => AY H hb
 intro t fr h' hK
 obtain ⟨e, H⟩ := hK
 subst e
 refine AF 1 [(31, .bool ((((p0.Name == p1.Name) && (p0.Bf == p1.Bf)) && (p0.Kind == p1.Kind)) && (p0.Mode == p1.Mode)))] H fun fr H => An 6 (fun fr' h' => h2 = h' ∧ Has fr' 94 [(2, .ptr (some (h.size, 0))), (3, .ptr (some (h1.size, 0))), (37, .bool (((((p0.Name == p1.Name) && (p0.Bf == p1.Bf)) && (p0.Kind == p1.Kind)) && (p0.Mode == p1.Mode)) && (p0.Dm == p1.Dm)))]) ?_ ?_
 ·cases hb : ((((p0.Name == p1.Name) && (p0.Bf == p1.Bf)) && (p0.Kind == p1.Kind)) && (p0.Mode == p1.Mode) : Bool) with
  | true =>
   replace H := H.kn 31 hb
   refine AR 1 [] 33 1 4 A H fun fr t H => ?_
   refine AR 1 [] 35 0 4 A H fun fr t H => ?_
   exact AF 2 [(37, .bool (p0.Dm == p1.Dm))] H fun fr H => AY H hb
  | false =>
   replace H := H.kn 31 hb
   exact AF 6 [(37, .bool false)] H fun fr H => AY H hb
 intro t fr h' hK
 obtain ⟨e, H⟩ := hK
 subst e
 refine AF 1 [(38, .bool (((((p0.Name == p1.Name) && (p0.Bf == p1.Bf)) && (p0.Kind == p1.Kind)) && (p0.Mode == p1.Mode)) && (p0.Dm == p1.Dm)))] H fun fr H => An 6 (fun fr' h' => h2 = h' ∧ Has fr' 94 [(2, .ptr (some (h.size, 0))), (3, .ptr (some (h1.size, 0))), (44, .bool ((((((p0.Name == p1.Name) && (p0.Bf == p1.Bf)) && (p0.Kind == p1.Kind)) && (p0.Mode == p1.Mode)) && (p0.Dm == p1.Dm)) && (p0.Eb == p1.Eb)))]) ?_ ?_
 ·cases hb : (((((p0.Name == p1.Name) && (p0.Bf == p1.Bf)) && (p0.Kind == p1.Kind)) && (p0.Mode == p1.Mode)) && (p0.Dm == p1.Dm) : Bool) with
  | true =>
   replace H := H.kn 38 hb
   refine AR 1 [] 40 1 5 A H fun fr t H => ?_
   refine AR 1 [] 42 0 5 A H fun fr t H => ?_
   exact AF 2 [(44, .bool (p0.Eb == p1.Eb))] H fun fr H => AY H hb
  | false =>
   replace H := H.kn 38 hb
   exact AF 6 [(44, .bool false)] H fun fr H => AY H hb
 intro t fr h' hK
 obtain ⟨e, H⟩ := hK
 subst e
 refine AF 1 [(45, .bool ((((((p0.Name == p1.Name) && (p0.Bf == p1.Bf)) && (p0.Kind == p1.Kind)) && (p0.Mode == p1.Mode)) && (p0.Dm == p1.Dm)) && (p0.Eb == p1.Eb)))] H fun fr H => An 6 (fun fr' h' => h2 = h' ∧ Has fr' 94 [(2, .ptr (some (h.size, 0))), (3, .ptr (some (h1.size, 0))), (51, .bool (((((((p0.Name == p1.Name) && (p0.Bf == p1.Bf)) && (p0.Kind == p1.Kind)) && (p0.Mode == p1.Mode)) && (p0.Dm == p1.Dm)) && (p0.Eb == p1.Eb)) && (p0.CB == p1.CB)))]) ?_ ?_
 ·cases hb : ((((((p0.Name == p1.Name) && (p0.Bf == p1.Bf)) && (p0.Kind == p1.Kind)) && (p0.Mode == p1.Mode)) && (p0.Dm == p1.Dm)) && (p0.Eb == p1.Eb) : Bool) with
  | true =>
   replace H := H.kn 45 hb
   refine AR 1 [] 47 1 6 A H fun fr t H => ?_
   refine AR 1 [] 49 0 6 A H fun fr t H => ?_
   exact AF 2 [(51, .bool (p0.CB == p1.CB))] H fun fr H => AY H hb
  | false =>
   replace H := H.kn 45 hb
   exact AF 6 [(51, .bool false)] H fun fr H => AY H hb
 intro t fr h' hK
 obtain ⟨e, H⟩ := hK
 subst e
 refine AF 1 [(52, .bool (((((((p0.Name == p1.Name) && (p0.Bf == p1.Bf)) && (p0.Kind == p1.Kind)) && (p0.Mode == p1.Mode)) && (p0.Dm == p1.Dm)) && (p0.Eb == p1.Eb)) && (p0.CB == p1.CB)))] H fun fr H => An 6 (fun fr' h' => h2 = h' ∧ Has fr' 94 [(2, .ptr (some (h.size, 0))), (3, .ptr (some (h1.size, 0))), (58, .bool ((((((((p0.Name == p1.Name) && (p0.Bf == p1.Bf)) && (p0.Kind == p1.Kind)) && (p0.Mode == p1.Mode)) && (p0.Dm == p1.Dm)) && (p0.Eb == p1.Eb)) && (p0.CB == p1.CB)) && (p0.Ca == p1.Ca)))]) ?_ ?_
 ·cases hb : (((((((p0.Name == p1.Name) && (p0.Bf == p1.Bf)) && (p0.Kind == p1.Kind)) && (p0.Mode == p1.Mode)) && (p0.Dm == p1.Dm)) && (p0.Eb == p1.Eb)) && (p0.CB == p1.CB) : Bool) with
  | true =>
   replace H := H.kn 52 hb
   refine AR 1 [] 54 1 7 A H fun fr t H => ?_
   refine AR 1 [] 56 0 7 A H fun fr t H => ?_
   exact AF 2 [(58, .bool (p0.Ca == p1.Ca))] H fun fr H => AY H hb
  | false =>
   replace H := H.kn 52 hb
   exact AF 6 [(58, .bool false)] H fun fr H => AY H hb
 intro t fr h' hK
 obtain ⟨e, H⟩ := hK
 subst e
 refine AF 1 [(59, .bool ((((((((p0.Name == p1.Name) && (p0.Bf == p1.Bf)) && (p0.Kind == p1.Kind)) && (p0.Mode == p1.Mode)) && (p0.Dm == p1.Dm)) && (p0.Eb == p1.Eb)) && (p0.CB == p1.CB)) && (p0.Ca == p1.Ca)))] H fun fr H => An 6 (fun fr' h' => h2 = h' ∧ Has fr' 94 [(2, .ptr (some (h.size, 0))), (3, .ptr (some (h1.size, 0))), (65, .bool (((((((((p0.Name == p1.Name) && (p0.Bf == p1.Bf)) && (p0.Kind == p1.Kind)) && (p0.Mode == p1.Mode)) && (p0.Dm == p1.Dm)) && (p0.Eb == p1.Eb)) && (p0.CB == p1.CB)) && (p0.Ca == p1.Ca)) && (p0.CY == p1.CY)))]) ?_ ?_
 ·cases hb : ((((((((p0.Name == p1.Name) && (p0.Bf == p1.Bf)) && (p0.Kind == p1.Kind)) && (p0.Mode == p1.Mode)) && (p0.Dm == p1.Dm)) && (p0.Eb == p1.Eb)) && (p0.CB == p1.CB)) && (p0.Ca == p1.Ca) : Bool) with
  | true =>
   replace H := H.kn 59 hb
   refine AR 1 [] 61 1 8 A H fun fr t H => ?_
   refine AR 1 [] 63 0 8 A H fun fr t H => ?_
   exact AF 2 [(65, .bool (p0.CY == p1.CY))] H fun fr H => AY H hb
  | false =>
   replace H := H.kn 59 hb
   exact AF 6 [(65, .bool false)] H fun fr H => AY H hb
 intro t fr h' hK
 obtain ⟨e, H⟩ := hK
 subst e
 refine AF 1 [(66, .bool (((((((((p0.Name == p1.Name) && (p0.Bf == p1.Bf)) && (p0.Kind == p1.Kind)) && (p0.Mode == p1.Mode)) && (p0.Dm == p1.Dm)) && (p0.Eb == p1.Eb)) && (p0.CB == p1.CB)) && (p0.Ca == p1.Ca)) && (p0.CY == p1.CY)))] H fun fr H => An 6 (fun fr' h' => h2 = h' ∧ Has fr' 94 [(2, .ptr (some (h.size, 0))), (3, .ptr (some (h1.size, 0))), (72, .bool ((((((((((p0.Name == p1.Name) && (p0.Bf == p1.Bf)) && (p0.Kind == p1.Kind)) && (p0.Mode == p1.Mode)) && (p0.Dm == p1.Dm)) && (p0.Eb == p1.Eb)) && (p0.CB == p1.CB)) && (p0.Ca == p1.Ca)) && (p0.CY == p1.CY)) && (p0.EX == p1.EX)))]) ?_ ?_
 ·cases hb : (((((((((p0.Name == p1.Name) && (p0.Bf == p1.Bf)) && (p0.Kind == p1.Kind)) && (p0.Mode == p1.Mode)) && (p0.Dm == p1.Dm)) && (p0.Eb == p1.Eb)) && (p0.CB == p1.CB)) && (p0.Ca == p1.Ca)) && (p0.CY == p1.CY) : Bool) with
  | true =>
   replace H := H.kn 66 hb
   refine AR 1 [] 68 1 9 A H fun fr t H => ?_
   refine AR 1 [] 70 0 9 A H fun fr t H => ?_
   exact AF 2 [(72, .bool (p0.EX == p1.EX))] H fun fr H => AY H hb
  | false =>
   replace H := H.kn 66 hb
   exact AF 6 [(72, .bool false)] H fun fr H => AY H hb
 intro t fr h' hK
 obtain ⟨e, H⟩ := hK
 subst e
 refine AF 1 [(73, .bool ((((((((((p0.Name == p1.Name) && (p0.Bf == p1.Bf)) && (p0.Kind == p1.Kind)) && (p0.Mode == p1.Mode)) && (p0.Dm == p1.Dm)) && (p0.Eb == p1.Eb)) && (p0.CB == p1.CB)) && (p0.Ca == p1.Ca)) && (p0.CY == p1.CY)) && (p0.EX == p1.EX)))] H fun fr H => ?_
 obtain ⟨x1, ho, hm⟩ := bind_some hm
 refine An 6 (fun fr' h' => Has fr' 94 [(2, .ptr (some (h.size, 0))), (3, .ptr (some (h1.size, 0))), (79, .bool x1)] ∧ HH g h' [.obj h1.size (.cells none 2 (AD p1)), .obj h.size (.cells none 2 (AD p0))] F) ?_ ?_
 ·rcases AU ho with ⟨hb, hm⟩ | ⟨hb, hm⟩
  ·replace H := H.kn 73 hb
   refine As 1 [] 75 _ _ H (fun fr => .of (Bs (by kernel_rfl) (A.GA 1 rfl (o := 10) (n := 2) ⟨Nat.le_of_ble_eq_true rfl, rfl⟩))) fun fr t H => ?_
   refine As 1 [] 77 _ _ H (fun fr => .of (Bs (by kernel_rfl) (A.GA 0 rfl (o := 10) (n := 2) ⟨Nat.le_of_ble_eq_true rfl, rfl⟩))) fun fr t H => ?_
   obtain ⟨x2, hx, hm⟩ := bind_some hm
   refine Az 78 (.bool x2) h2 H (fun fr => .of (Ve (by kernel_rfl) hx)) fun fr t H => ?_
   refine AF 1 [(79, .bool x2)] H fun fr H => ?_
   obtain rfl := Aa hm
   exact at_nil ⟨H.ls, A⟩
  replace H := H.kn 73 hb
  refine AF 6 [(79, .bool false)] H fun fr H => ?_
  obtain rfl := Aa hm
  exact at_nil ⟨H.ls, A⟩
 clear A
 intro t fr h3 hK
 obtain ⟨H, A⟩ := hK
 refine AF 1 [(80, .bool x1)] H fun fr H => ?_
 obtain ⟨x3, ho, hm⟩ := bind_some hm
 refine An 6 (fun fr' h' => Has fr' 94 [(2, .ptr (some (h.size, 0))), (3, .ptr (some (h1.size, 0))), (86, .bool x3)] ∧ HH g h' [.obj h1.size (.cells none 2 (AD p1)), .obj h.size (.cells none 2 (AD p0))] F) ?_ ?_
 ·rcases AU ho with ⟨hb, hm⟩ | ⟨hb, hm⟩
  ·replace H := H.kn 80 hb
   refine AR 1 [] 82 1 12 A H fun fr t H => ?_
   refine AR 1 [] 84 0 12 A H fun fr t H => ?_
   obtain ⟨x4, hx, hm⟩ := bind_some hm
   obtain ⟨v1, h5, hr, rfl, A1⟩ := Kh (av := [vs Af p0.Extra, vs Af p1.Extra]) hx (A.cut 0)
   replace A := A.EV A1
   refine Ay 85 hr H fun fr t H => ?_
   refine AF 1 [(86, .bool x4)] H fun fr H => ?_
   obtain rfl := Aa hm
   exact at_nil ⟨H.ls, A⟩
  replace H := H.kn 80 hb
  refine AF 6 [(86, .bool false)] H fun fr H => ?_
  obtain rfl := Aa hm
  exact at_nil ⟨H.ls, A⟩
 clear A
 intro t fr h4 hK
 obtain ⟨H, A⟩ := hK
 refine AF 1 [(87, .bool x3)] H fun fr H => An 6 (fun fr' h' => h4 = h' ∧ Has fr' 94 [(93, .bool (x3 && (p0.Data == p1.Data)))]) ?_ ?_
 ·cases hb : (x3 : Bool) with
  | true =>
   replace H := H.kn 87 hb
   refine AR 1 [] 89 1 13 A H fun fr t H => ?_
   refine AR 1 [] 91 0 13 A H fun fr t H => ?_
   exact AF 2 [(93, .bool (p0.Data == p1.Data))] H fun fr H => AY H hb
  | false =>
   replace H := H.kn 87 hb
   exact AF 6 [(93, .bool false)] H fun fr H => AY H hb
 intro t fr h' hK
 obtain ⟨e, H⟩ := hK
 subst e
 refine AN 1 [(4, .bool (x3 && (p0.Data == p1.Data)))] H fun fr H => AS ?_
 obtain rfl := Aa hm
 refine ⟨.inl rfl, .bool (x3 && (p0.Data == p1.Data)), rH H, ?_⟩
 replace A := A.d0
 exact ⟨rfl, A⟩
def FI (p1 : AV) (p2 : Bw) : Option (AV × Int × Int) :=
 none
theorem JO {p1 p2 bp2 bp2_0 q0 q1 q2} (hm : FI p1 p2 = some (q0, q1, q2)) (A : HH g h [.obj bp2 (.cells none 2 [.map (some bp2_0)]), .obj bp2_0 (.map 2 (BR (fun k : List UInt8 => .str k) (fun v : Bool => .bool v) p2.DT))] F) (hc : BI (cfg.still 15) av = [.ptr none, .agg (AD p1), .ptr (some (bp2, 0))] := by kernel_rfl) : ∃ v h', BL cfg g h 15 av v h' ∧ v = .tuple [.agg (AD q0), Ai q1, Ai q2] ∧ HH g h' [.obj bp2 (.cells none 2 [.map (some bp2_0)]), .obj bp2_0 (.map 2 (BR (fun k : List UInt8 => .str k) (fun v : Bool => .bool v) p2.DT))] F := by
 refine Vz 83 [.cell 6 44, .tmp 7, .tmp 8] hc ?_
 clear hc
 unfold FI at hm
 refine bg 83 [(0, .ptr none), (1, .agg (AD p1)), (2, .ptr (some (bp2, 0)))] fun fr H => ?_
 refine AG 6 ?_
 obtain ⟨h1, e1, A⟩ := A.pu (.cells none 2 [.ptr none])
 refine BC 3 (.ptr (some (h.size, 0))) e1 H fun fr t H => ?_
 obtain ⟨h2, e2, A⟩ := A.pu (.cells none 2 (AD p1))
 refine BC 4 (.ptr (some (h1.size, 0))) e2 H fun fr t H => ?_
 obtain ⟨h3, e3, A⟩ := A.pu (.cells none 2 [.ptr (some (bp2, 0))])
 refine BC 5 (.ptr (some (h2.size, 0))) e3 H fun fr t H => ?_
 obtain ⟨h4, e4, A⟩ := A.pu (.cells none 2 [.str ([] : List UInt8), .str ([] : List UInt8), Ab 0, Ai 0, Ai 0, Ai 0, .str ([] : List UInt8), .str ([] : List UInt8), Ai 0, Ai 0, Ai 0, Ai 0, .slice none 0, .str ([] : List UInt8)])
 refine BC 6 (.ptr (some (h3.size, 0))) e4 H fun fr t H => ?_
 refine BT 2 [] 2 H fun fr H => AN 2 [(9, .func (.func 39) [] [.ptr (some (h2.size, 0)), .ptr (some (h.size, 0))])] H fun fr H => AQ (AG 12 (Eu 18 3 0 A H fun fr t H => ?_))
 refine AR 2 [(19, .func (.func 40) [.ptr none] []), (20, .func (.func 39) [] [.ptr (some (h2.size, 0)), .ptr (some (h.size, 0))])] 21 3 0 A H fun fr t H => ?_
 refine AR 1 [(22, .func (.func 41) [.ptr none] [])] 23 3 0 A H fun fr t H => ?_
 refine AR 1 [(24, .func (.func 42) [.ptr none] [])] 25 3 0 A H fun fr t H => ?_
 refine AF 1 [(26, .func (.func 43) [.ptr none] [])] H fun fr H => ?_
 obtain ⟨h5, e5⟩ : ∃ x, x = h4.push (.cells (some 48) 2 [.func (.func 40) [.ptr none] [], .func (.func 39) [] [.ptr (some (h2.size, 0)), .ptr (some (h.size, 0))], .func (.func 41) [.ptr none] [], .func (.func 42) [.ptr none] [], .func (.func 43) [.ptr none] []]) := ⟨_, rfl⟩
 replace A : HH g h5 [.obj h4.size (.cells (some 48) 2 [.func (.func 40) [.ptr none] [], .func (.func 39) [] [.ptr (some (h2.size, 0)), .ptr (some (h.size, 0))], .func (.func 41) [.ptr none] [], .func (.func 42) [.ptr none] [], .func (.func 43) [.ptr none] []]), .obj h3.size (.cells none 2 [.str ([] : List UInt8), .str ([] : List UInt8), Ab 0, Ai 0, Ai 0, Ai 0, .str ([] : List UInt8), .str ([] : List UInt8), Ai 0, Ai 0, Ai 0, Ai 0, .slice none 0, .str ([] : List UInt8)]), .obj h2.size (.cells none 2 [.ptr (some (bp2, 0))]), .obj h1.size (.cells none 2 (AD p1)), .obj h.size (.cells none 2 [.ptr none]), _, _] F := (A.push _).to e5
 refine BC 27 (.slice (some (h4.size, 0)) 5) e5 H fun fr t H => ?_
 refine AN 2 [(28, Ai 5), (29, Ai 0)] H fun fr H => AX (id := 0) (by kernel_rfl) ?_
 refine Dn (by kernel_rfl) ?_
 refine AG 1 (AN 1 [(30, .bool true)] H fun fr H => AQ (Dd (x := .tmp 30) (by kernel_rfl) H (fun fr => by kernel_rfl) ?_))
 refine Be id (AQ (AX (id := 1) (by kernel_rfl) ?_))
 refine AG 3 (AR 1 [] 32 0 0 A H fun fr t H => ?_)
 refine BT 1 [(11, .func (.func 40) [.ptr none] [])] 4 H fun fr H => As 1 [(33, .func (.func 40) [.ptr none] [])] 34 _ _ H (fun fr => .of (Bs (by kernel_rfl) (A.GA 3 rfl (o := 0) (n := 14) ⟨Nat.le_of_ble_eq_true rfl, rfl⟩))) fun fr t H => ?_
 cases hm
end
end Go.Av.L
