/-
 A part.
-/
import Derived.Test.YtdjbadhilkmiiaaGreatDoorKCfg
import Derived.Test.YtdjbadhilkmiiaaGreatDoorK2
import Derived.Test.YtdjbadhilkmiiaaGreatDoorK3
import Derived.Test.YtdjbadhilkmiiaaGreatDoorK4
import Derived.Test.YtdjbadhilkmiiaaGreatDoorK5
import Derived.Test.YtdjbadhilkmiiaaGreatDoorK6
namespace Go.Av.L
open Go.Av Go.Lib
set_option maxRecDepth 10000
set_option maxHeartbeats 4000000
set_option linter.unusedVariables false
set_option linter.unusedSimpArgs false
variable {g : Gd} {h : AJ} {F : List Ck} {av : List AB}
noncomputable section
def Ch (p0 : B2) (p1 : Bk) : Option (Bk × Int × Int × Cf) :=
 (EB p0 p1).bind fun x1 => Ac (x1 != 0) (some ((⟨([] : List UInt8), ([] : List UInt8), (0 : Int), (0 : Int), (0 : Int), (0 : Int), ([] : List UInt8), ([] : List UInt8), (0 : Int), (0 : Int), (⟨(0 : Int), (0 : Int)⟩ : Bb), ([] : List Cc), ([] : List UInt8)⟩ : Bk), x1, (0 : Int), p0.Ar)) ((DT p1 p0).bind fun x2 => Ac (x2 != 0) (some ((⟨([] : List UInt8), ([] : List UInt8), (0 : Int), (0 : Int), (0 : Int), (0 : Int), ([] : List UInt8), ([] : List UInt8), (0 : Int), (0 : Int), (⟨(0 : Int), (0 : Int)⟩ : Bb), ([] : List Cc), ([] : List UInt8)⟩ : Bk), x2, (0 : Int), p0.Ar)) ((EM p0 p1).bind fun x3 => Ac (x3 != 0) (some ((⟨([] : List UInt8), ([] : List UInt8), (0 : Int), (0 : Int), (0 : Int), (0 : Int), ([] : List UInt8), ([] : List UInt8), (0 : Int), (0 : Int), (⟨(0 : Int), (0 : Int)⟩ : Bb), ([] : List Cc), ([] : List UInt8)⟩ : Bk), x3, (0 : Int), p0.Ar)) ((Di p0 p1).bind fun (x4, x5) => Ac (x4 != 0) (some ((⟨([] : List UInt8), ([] : List UInt8), (0 : Int), (0 : Int), (0 : Int), (0 : Int), ([] : List UInt8), ([] : List UInt8), (0 : Int), (0 : Int), (⟨(0 : Int), (0 : Int)⟩ : Bb), ([] : List Cc), ([] : List UInt8)⟩ : Bk), x4, (0 : Int), x5)) ((D3 (⟨p0.c_, p0.Aj, p0.Ak, p0.Aq, x5⟩ : B2) p1).bind fun x6 => Ac (x6 != 0) (some ((⟨([] : List UInt8), ([] : List UInt8), (0 : Int), (0 : Int), (0 : Int), (0 : Int), ([] : List UInt8), ([] : List UInt8), (0 : Int), (0 : Int), (⟨(0 : Int), (0 : Int)⟩ : Bb), ([] : List Cc), ([] : List UInt8)⟩ : Bk), x6, (0 : Int), x5)) ((GK p1.Name p0.c_.Bf).bind fun (x7, x8) => ((GK p1.Oy p0.c_.Bf).bind fun (x10, x11) => Ac (x11 && (p1.Kind == 49)) (some x10) (some p1.Oy) : Option (((List UInt8)))).bind fun x9 => (Ej p0.Aq (⟨x7, x9, p1.Kind, p1.Mode, p1.Wk, p1.We, p1.RF, p1.Qk, p1.RL, p1.QT, p1.Time, p1.Extra, p1.Data⟩ : Bk)).bind fun (x12, x13) => some (x12, (0 : Int), x13, x5))))))
theorem Dy {p0 p1 bp0 rp0_14 rp0_15 bp0_16 rp0_16_0 bp0_17 q0 q1 q2 u5} (hm : Ch p0 p1 = some (q0, q1, q2, u5)) (A : HH g h [.obj bp0 (.cells none 2 [vs AA p0.c_.AQ, vs AA p0.c_.AS, vs AL p0.c_.Bt, .bool p0.c_.FT, .bool p0.c_.Ay, Ai p0.c_.BN, .bool p0.c_.Be, Ai p0.c_.An.CX, Ai p0.c_.An.BS, Ai p0.c_.Eu, Ai p0.c_.Bf, Ai p0.c_.Name, Ai p0.c_.Head, Ai p0.c_.BF, AH rp0_14 p0.Aj.length, AH rp0_15 p0.Ak.length, .ptr (some (bp0_16, 0)), .ptr (some (bp0_17, 0))]), .AK rp0_14 93 (AK (eP AE) p0.Aj), .AK rp0_15 93 (AK (eP AE) p0.Ak), .obj bp0_16 (.cells none 2 [AH rp0_16_0 p0.Aq.l_.length, Ai p0.Aq.Cm]), .AK rp0_16_0 99 (AK (eP AU) p0.Aq.l_), .obj bp0_17 (.cells none 2 ([Ai p0.Ar.n_, Ai p0.Ar.Az] ++ (DC 257 (AB.int .i64) p0.Ar.Bl ++ [])))] F) (hc : Ba (cfg.still 10) av = [.ptr (some (bp0, 0)), .agg (Aa p1), .ptr none] := by kernel_rfl) : ∃ v h', Bi cfg g h 10 av v h' ∧ v = .tuple [.agg (Aa q0), Ai q1, Ai q2] ∧ HH g h' [.obj bp0 (.cells none 2 [vs AA p0.c_.AQ, vs AA p0.c_.AS, vs AL p0.c_.Bt, .bool p0.c_.FT, .bool p0.c_.Ay, Ai p0.c_.BN, .bool p0.c_.Be, Ai p0.c_.An.CX, Ai p0.c_.An.BS, Ai p0.c_.Eu, Ai p0.c_.Bf, Ai p0.c_.Name, Ai p0.c_.Head, Ai p0.c_.BF, AH rp0_14 p0.Aj.length, AH rp0_15 p0.Ak.length, .ptr (some (bp0_16, 0)), .ptr (some (bp0_17, 0))]), .AK rp0_14 93 (AK (eP AE) p0.Aj), .AK rp0_15 93 (AK (eP AE) p0.Ak), .obj bp0_16 (.cells none 2 [AH rp0_16_0 p0.Aq.l_.length, Ai p0.Aq.Cm]), .AK rp0_16_0 99 (AK (eP AU) p0.Aq.l_), .obj bp0_17 (.cells none 2 ([Ai u5.n_, Ai u5.Az] ++ (DC 257 (AB.int .i64) u5.Bl ++ [])))] F := by
 refine XL 83 [.cell 6 46, .tmp 7, .tmp 8] hc ?_
 clear hc
 unfold Ch at hm
 refine bg 83 [(0, .ptr (some (bp0, 0))), (1, .agg (Aa p1)), (2, .ptr none)] fun fr H => ?_
 refine AF 6 ?_
 obtain ⟨h1, e1, A⟩ := A.pu (.cells none 2 [.ptr (some (bp0, 0))])
 refine BP 3 (.ptr (some (h.size, 0))) e1 H fun fr t H => ?_
 obtain ⟨h2, e2, A⟩ := A.pu (.cells none 2 (Aa p1))
 refine BP 4 (.ptr (some (h1.size, 0))) e2 H fun fr t H => ?_
 obtain ⟨h3, e3, A⟩ := A.pu (.cells none 2 [.ptr none])
 refine BP 5 (.ptr (some (h2.size, 0))) e3 H fun fr t H => ?_
 obtain ⟨h4, e4, A⟩ := A.pu (.cells none 2 [.str ([] : List UInt8), .str ([] : List UInt8), Ab 0, Ai 0, Ai 0, Ai 0, .str ([] : List UInt8), .str ([] : List UInt8), Ai 0, Ai 0, Ai 0, Ai 0, .slice none 0, .str ([] : List UInt8)])
 refine BP 6 (.ptr (some (h3.size, 0))) e4 H fun fr t H => ?_
 refine B1 2 [] 2 H fun fr H => AP 2 [(9, .func (.func 22) [] [.ptr (some (h2.size, 0)), .ptr (some (h.size, 0))])] H fun fr H => AR (AF 12 (GI 18 3 0 A H fun fr t H => ?_))
 refine Ah 2 [(19, .func (.func 24) [.ptr (some (bp0, 0))] []), (20, .func (.func 22) [] [.ptr (some (h2.size, 0)), .ptr (some (h.size, 0))])] 21 3 0 A H fun fr t H => ?_
 refine Ah 1 [(22, .func (.func 25) [.ptr (some (bp0, 0))] [])] 23 3 0 A H fun fr t H => ?_
 refine Ah 1 [(24, .func (.func 26) [.ptr (some (bp0, 0))] [])] 25 3 0 A H fun fr t H => ?_
 refine AG 1 [(26, .func (.func 27) [.ptr (some (bp0, 0))] [])] H fun fr H => ?_
 obtain ⟨h5, e5⟩ : ∃ x, x = h4.push (.cells (some 82) 2 [.func (.func 24) [.ptr (some (bp0, 0))] [], .func (.func 22) [] [.ptr (some (h2.size, 0)), .ptr (some (h.size, 0))], .func (.func 25) [.ptr (some (bp0, 0))] [], .func (.func 26) [.ptr (some (bp0, 0))] [], .func (.func 27) [.ptr (some (bp0, 0))] []]) := ⟨_, rfl⟩
 replace A : HH g h5 [.obj h4.size (.cells (some 82) 2 [.func (.func 24) [.ptr (some (bp0, 0))] [], .func (.func 22) [] [.ptr (some (h2.size, 0)), .ptr (some (h.size, 0))], .func (.func 25) [.ptr (some (bp0, 0))] [], .func (.func 26) [.ptr (some (bp0, 0))] [], .func (.func 27) [.ptr (some (bp0, 0))] []]), .obj h3.size (.cells none 2 [.str ([] : List UInt8), .str ([] : List UInt8), Ab 0, Ai 0, Ai 0, Ai 0, .str ([] : List UInt8), .str ([] : List UInt8), Ai 0, Ai 0, Ai 0, Ai 0, .slice none 0, .str ([] : List UInt8)]), .obj h2.size (.cells none 2 [.ptr none]), .obj h1.size (.cells none 2 (Aa p1)), .obj h.size (.cells none 2 [.ptr (some (bp0, 0))]), _, _, _, _, _, _] F := (A.push _).to e5
 refine BP 27 (.slice (some (h4.size, 0)) 5) e5 H fun fr t H => ?_
 refine AP 2 [(28, Ai 5), (29, Ai 0)] H fun fr H => Af (id := 0) (by kernel_rfl) ?_
 refine IJ (by kernel_rfl) ?_
 refine AF 1 (AP 1 [(30, .bool true)] H fun fr H => AR (IF (x := .tmp 30) (by kernel_rfl) H (fun fr => by kernel_rfl) ?_))
 refine B0 id (AR (Af (id := 1) (by kernel_rfl) ?_))
 refine AF 3 (Ah 1 [] 32 0 0 A H fun fr t H => ?_)
 refine B1 1 [(11, .func (.func 24) [.ptr (some (bp0, 0))] [])] 4 H fun fr H => BA 1 [(33, .func (.func 24) [.ptr (some (bp0, 0))] [])] 34 _ _ H (fun fr => .of (B3 (by kernel_rfl) (A.F5 3 rfl (o := 0) (n := 14) ⟨Nat.le_of_ble_eq_true rfl, rfl⟩))) fun fr t H => ?_
 replace A : HH g h5 [_, _, _, _, _, _, _, _, _, _, _] F := ((((((A.front 10 rfl).front 10 rfl).front 10 rfl).front 10 rfl).front 10 rfl).front 10 rfl)
 obtain ⟨x1, hx, hm⟩ := bind_some hm
 obtain ⟨v1, h6, hr, rfl, A1⟩ := Hj (av := [.ptr (some (bp0, 0)), .agg (Aa p1)]) hx (A.cut 6)
 replace A : HH g h6 [.obj bp0 (.cells none 2 [_, _, _, _, _, _, _, _, _, _, _, _, _, _, _, _, _, _]), .AK rp0_14 93 (AK (eP AE) p0.Aj), .AK rp0_15 93 (AK (eP AE) p0.Ak), .obj bp0_16 (.cells none 2 [AH rp0_16_0 p0.Aq.l_.length, Ai p0.Aq.Cm]), .AK rp0_16_0 99 (AK (eP AU) p0.Aq.l_), .obj bp0_17 (.cells none 2 ([Ai p0.Ar.n_, Ai p0.Ar.Az] ++ (DC 257 (AB.int .i64) p0.Ar.Bl ++ []))), _, _, _, _, _] F := A.Cp (n := 6) A1
 refine A8 35 hr H fun fr t H => ?_
 refine B1 1 [(12, Ai x1)] 2 H fun fr H => AP 2 [(37, .bool (x1 != 0))] H fun fr H => Ae 37 H hm (fun hb hm H => ?_) fun hb hm H => ?_
 ·refine AF 5 ?_
  obtain ⟨h7, hx, A⟩ := A.s7 0 [.str ([] : List UInt8), .str ([] : List UInt8), Ab 0, Ai 0, Ai 0, Ai 0, .str ([] : List UInt8), .str ([] : List UInt8), Ai 0, Ai 0, Ai 0, Ai 0, .slice none 0, .str ([] : List UInt8)] [_, _, _, _, _, _, _, _, _, _, _, _, _, _]
  refine Dm 2 [(39, Ai x1)] hx H fun fr t H => ?_
  refine AP 2 [(7, Ai x1), (8, Ai 0)] H fun fr H => AY ?_
  obtain ⟨rfl, rfl, rfl, rfl⟩ := M3 hm
  refine ⟨.inl rfl, .tuple [.agg [.str ([] : List UInt8), .str ([] : List UInt8), Ab 0, Ai 0, Ai 0, Ai 0, .str ([] : List UInt8), .str ([] : List UInt8), Ai 0, Ai 0, Ai 0, Ai 0, .slice none 0, .str ([] : List UInt8)], Ai x1, Ai 0], B8 (.cell (rT H) (BL (by kernel_rfl) (by kernel_rfl) (A.la 7 0 14)) (.tmp (rT H) (.tmp (rT H) .nil))), ?_⟩
  refine ⟨.tuple [.agg [.str ([] : List UInt8), .str ([] : List UInt8), Ab 0, Ai 0, Ai 0, Ai 0, .str ([] : List UInt8), .str ([] : List UInt8), Ai 0, Ai 0, Ai 0, Ai 0, vs C0 ([] : List Cc), .str ([] : List UInt8)], Ai x1, Ai 0], h7, by first | rfl | (simp only [M5, Ma, NF, NB, Mz, M0, Mm, Mf, NI, MZ, My, Ic, Io, Iq, IQ, Ig, IK, Ir, Option.map_some] <;> rfl), ?_⟩
  replace A := A.d6
  exact ⟨rfl, A⟩
 refine F3 2 id (BV 2 [(3, .ptr (some (h.size, 0))), (4, .ptr (some (h1.size, 0))), (6, .ptr (some (h3.size, 0))), (27, .slice (some (h4.size, 0)) 5), (28, Ai 5), (29, Ai 1)] H fun fr H => BD id (IJ (by kernel_rfl) ?_))
 refine AF 1 (AP 1 [(30, .bool true)] H fun fr H => AR (IF (x := .tmp 30) (by kernel_rfl) H (fun fr => by kernel_rfl) ?_))
 refine B0 id (AR (Af (id := 1) (by kernel_rfl) ?_))
 refine AF 3 (Ah 1 [] 32 6 1 A H fun fr t H => ?_)
 refine B1 1 [(11, .func (.func 22) [] [.ptr (some (h2.size, 0)), .ptr (some (h.size, 0))])] 4 H fun fr H => BA 1 [(33, .func (.func 22) [] [.ptr (some (h2.size, 0)), .ptr (some (h.size, 0))])] 34 _ _ H (fun fr => .of (B3 (by kernel_rfl) (A.F5 9 rfl (o := 0) (n := 14) ⟨Nat.le_of_ble_eq_true rfl, rfl⟩))) fun fr t H => ?_
 replace A : HH g h6 [_, _, _, _, _, _, _, _, _, _, _] F := ((((((((A.front 5 rfl).front 5 rfl).front 5 rfl).front 5 rfl).front 5 rfl).front 5 rfl).front 10 rfl).front 9 rfl)
 obtain ⟨x2, hx, hm⟩ := bind_some hm
 obtain ⟨v1, h8, hr, rfl, A1⟩ := Gm (av := [.agg (Aa p1), .ptr (some (h2.size, 0)), .ptr (some (h.size, 0))]) hx (A.cut 8)
 replace A : HH g h8 [.obj h2.size (.cells none 2 [.ptr none]), .obj h.size (.cells none 2 [.ptr (some (bp0, 0))]), .obj bp0 (.cells none 2 [_, _, _, _, _, _, _, _, _, _, _, _, _, _, _, _, _, _]), .AK rp0_14 93 (AK (eP AE) p0.Aj), .AK rp0_15 93 (AK (eP AE) p0.Ak), .obj bp0_16 (.cells none 2 [AH rp0_16_0 p0.Aq.l_.length, Ai p0.Aq.Cm]), .AK rp0_16_0 99 (AK (eP AU) p0.Aq.l_), .obj bp0_17 (.cells none 2 ([Ai p0.Ar.n_, Ai p0.Ar.Az] ++ (DC 257 (AB.int .i64) p0.Ar.Bl ++ []))), _, _, _] F := A.Cp (n := 8) A1
 refine A8 35 hr H fun fr t H => ?_
 refine B1 1 [(12, Ai x2)] 2 H fun fr H => AP 2 [(37, .bool (x2 != 0))] H fun fr H => Ae 37 H hm (fun hb hm H => ?_) fun hb hm H => ?_
 ·refine AF 5 ?_
  obtain ⟨h9, hx, A⟩ := A.s9 0 [.str ([] : List UInt8), .str ([] : List UInt8), Ab 0, Ai 0, Ai 0, Ai 0, .str ([] : List UInt8), .str ([] : List UInt8), Ai 0, Ai 0, Ai 0, Ai 0, .slice none 0, .str ([] : List UInt8)] [_, _, _, _, _, _, _, _, _, _, _, _, _, _]
  refine Dm 2 [(39, Ai x2)] hx H fun fr t H => ?_
  refine AP 2 [(7, Ai x2), (8, Ai 0)] H fun fr H => AY ?_
  obtain ⟨rfl, rfl, rfl, rfl⟩ := M3 hm
  refine ⟨.inl rfl, .tuple [.agg [.str ([] : List UInt8), .str ([] : List UInt8), Ab 0, Ai 0, Ai 0, Ai 0, .str ([] : List UInt8), .str ([] : List UInt8), Ai 0, Ai 0, Ai 0, Ai 0, .slice none 0, .str ([] : List UInt8)], Ai x2, Ai 0], B8 (.cell (rT H) (BL (by kernel_rfl) (by kernel_rfl) (A.la 9 0 14)) (.tmp (rT H) (.tmp (rT H) .nil))), ?_⟩
  refine ⟨.tuple [.agg [.str ([] : List UInt8), .str ([] : List UInt8), Ab 0, Ai 0, Ai 0, Ai 0, .str ([] : List UInt8), .str ([] : List UInt8), Ai 0, Ai 0, Ai 0, Ai 0, vs C0 ([] : List Cc), .str ([] : List UInt8)], Ai x2, Ai 0], h9, by first | rfl | (simp only [M5, Ma, NF, NB, Mz, M0, Mm, Mf, NI, MZ, My, Ic, Io, Iq, IQ, Ig, IK, Ir, Option.map_some] <;> rfl), ?_⟩
  replace A := A.k6 2 3 4 5 6 7
  exact ⟨rfl, A⟩
 refine F3 2 id (BV 2 [(3, .ptr (some (h.size, 0))), (4, .ptr (some (h1.size, 0))), (6, .ptr (some (h3.size, 0))), (27, .slice (some (h4.size, 0)) 5), (28, Ai 5), (29, Ai 2)] H fun fr H => BD id (IJ (by kernel_rfl) ?_))
 refine AF 1 (AP 1 [(30, .bool true)] H fun fr H => AR (IF (x := .tmp 30) (by kernel_rfl) H (fun fr => by kernel_rfl) ?_))
 refine B0 id (AR (Af (id := 1) (by kernel_rfl) ?_))
 refine AF 3 (Ah 1 [] 32 8 2 A H fun fr t H => ?_)
 refine B1 1 [(11, .func (.func 25) [.ptr (some (bp0, 0))] [])] 4 H fun fr H => BA 1 [(33, .func (.func 25) [.ptr (some (bp0, 0))] [])] 34 _ _ H (fun fr => .of (B3 (by kernel_rfl) (A.F5 10 rfl (o := 0) (n := 14) ⟨Nat.le_of_ble_eq_true rfl, rfl⟩))) fun fr t H => ?_
 replace A : HH g h8 [_, _, _, _, _, _, _, _, _, _, _] F := ((((((A.front 7 rfl).front 7 rfl).front 7 rfl).front 7 rfl).front 7 rfl).front 7 rfl)
 obtain ⟨x3, hx, hm⟩ := bind_some hm
 obtain ⟨v1, h10, hr, rfl, A1⟩ := Hu (av := [.ptr (some (bp0, 0)), .agg (Aa p1)]) hx (A.cut 6)
 replace A : HH g h10 [.obj bp0 (.cells none 2 [_, _, _, _, _, _, _, _, _, _, _, _, _, _, _, _, _, _]), .AK rp0_14 93 (AK (eP AE) p0.Aj), .AK rp0_15 93 (AK (eP AE) p0.Ak), .obj bp0_16 (.cells none 2 [AH rp0_16_0 p0.Aq.l_.length, Ai p0.Aq.Cm]), .AK rp0_16_0 99 (AK (eP AU) p0.Aq.l_), .obj bp0_17 (.cells none 2 ([Ai p0.Ar.n_, Ai p0.Ar.Az] ++ (DC 257 (AB.int .i64) p0.Ar.Bl ++ []))), _, _, _, _, _] F := A.Cp (n := 6) A1
 refine A8 35 hr H fun fr t H => ?_
 refine B1 1 [(12, Ai x3)] 2 H fun fr H => AP 2 [(37, .bool (x3 != 0))] H fun fr H => Ae 37 H hm (fun hb hm H => ?_) fun hb hm H => ?_
 ·refine AF 5 ?_
  obtain ⟨h11, hx, A⟩ := A.s9 0 [.str ([] : List UInt8), .str ([] : List UInt8), Ab 0, Ai 0, Ai 0, Ai 0, .str ([] : List UInt8), .str ([] : List UInt8), Ai 0, Ai 0, Ai 0, Ai 0, .slice none 0, .str ([] : List UInt8)] [_, _, _, _, _, _, _, _, _, _, _, _, _, _]
  refine Dm 2 [(39, Ai x3)] hx H fun fr t H => ?_
  refine AP 2 [(7, Ai x3), (8, Ai 0)] H fun fr H => AY ?_
  obtain ⟨rfl, rfl, rfl, rfl⟩ := M3 hm
  refine ⟨.inl rfl, .tuple [.agg [.str ([] : List UInt8), .str ([] : List UInt8), Ab 0, Ai 0, Ai 0, Ai 0, .str ([] : List UInt8), .str ([] : List UInt8), Ai 0, Ai 0, Ai 0, Ai 0, .slice none 0, .str ([] : List UInt8)], Ai x3, Ai 0], B8 (.cell (rT H) (BL (by kernel_rfl) (by kernel_rfl) (A.la 9 0 14)) (.tmp (rT H) (.tmp (rT H) .nil))), ?_⟩
  refine ⟨.tuple [.agg [.str ([] : List UInt8), .str ([] : List UInt8), Ab 0, Ai 0, Ai 0, Ai 0, .str ([] : List UInt8), .str ([] : List UInt8), Ai 0, Ai 0, Ai 0, Ai 0, vs C0 ([] : List Cc), .str ([] : List UInt8)], Ai x3, Ai 0], h11, by first | rfl | (simp only [M5, Ma, NF, NB, Mz, M0, Mm, Mf, NI, MZ, My, Ic, Io, Iq, IQ, Ig, IK, Ir, Option.map_some] <;> rfl), ?_⟩
  replace A := A.d6
  exact ⟨rfl, A⟩
 refine F3 2 id (BV 2 [(3, .ptr (some (h.size, 0))), (4, .ptr (some (h1.size, 0))), (6, .ptr (some (h3.size, 0))), (27, .slice (some (h4.size, 0)) 5), (28, Ai 5), (29, Ai 3)] H fun fr H => BD id (IJ (by kernel_rfl) ?_))
 refine AF 1 (AP 1 [(30, .bool true)] H fun fr H => AR (IF (x := .tmp 30) (by kernel_rfl) H (fun fr => by kernel_rfl) ?_))
 refine B0 id (AR (Af (id := 1) (by kernel_rfl) ?_))
 refine AF 3 (Ah 1 [] 32 8 3 A H fun fr t H => ?_)
 refine B1 1 [(11, .func (.func 26) [.ptr (some (bp0, 0))] [])] 4 H fun fr H => BA 1 [(33, .func (.func 26) [.ptr (some (bp0, 0))] [])] 34 _ _ H (fun fr => .of (B3 (by kernel_rfl) (A.F5 10 rfl (o := 0) (n := 14) ⟨Nat.le_of_ble_eq_true rfl, rfl⟩))) fun fr t H => ?_
 obtain ⟨⟨x4, x5⟩, hx, hm⟩ := bind_some hm
 obtain ⟨v1, h12, hr, rfl, A1⟩ := G5 (av := [.ptr (some (bp0, 0)), .agg (Aa p1)]) hx (A.cut 6)
 replace A : HH g h12 [.obj bp0 (.cells none 2 [_, _, _, _, _, _, _, _, _, _, _, _, _, _, _, _, _, _]), .AK rp0_14 93 (AK (eP AE) p0.Aj), .AK rp0_15 93 (AK (eP AE) p0.Ak), .obj bp0_16 (.cells none 2 [AH rp0_16_0 p0.Aq.l_.length, Ai p0.Aq.Cm]), .AK rp0_16_0 99 (AK (eP AU) p0.Aq.l_), .obj bp0_17 (.cells none 2 ([Ai x5.n_, Ai x5.Az] ++ (DC 257 (AB.int .i64) x5.Bl ++ []))), _, _, _, _, _] F := A.Cp (n := 6) A1
 refine A8 35 hr H fun fr t H => ?_
 refine B1 1 [(12, Ai x4)] 2 H fun fr H => AP 2 [(37, .bool (x4 != 0))] H fun fr H => Ae 37 H hm (fun hb hm H => ?_) fun hb hm H => ?_
 ·refine AF 5 ?_
  obtain ⟨h13, hx, A⟩ := A.s9 0 [.str ([] : List UInt8), .str ([] : List UInt8), Ab 0, Ai 0, Ai 0, Ai 0, .str ([] : List UInt8), .str ([] : List UInt8), Ai 0, Ai 0, Ai 0, Ai 0, .slice none 0, .str ([] : List UInt8)] [_, _, _, _, _, _, _, _, _, _, _, _, _, _]
  refine Dm 2 [(39, Ai x4)] hx H fun fr t H => ?_
  refine AP 2 [(7, Ai x4), (8, Ai 0)] H fun fr H => AY ?_
  obtain ⟨rfl, rfl, rfl, rfl⟩ := M3 hm
  refine ⟨.inl rfl, .tuple [.agg [.str ([] : List UInt8), .str ([] : List UInt8), Ab 0, Ai 0, Ai 0, Ai 0, .str ([] : List UInt8), .str ([] : List UInt8), Ai 0, Ai 0, Ai 0, Ai 0, .slice none 0, .str ([] : List UInt8)], Ai x4, Ai 0], B8 (.cell (rT H) (BL (by kernel_rfl) (by kernel_rfl) (A.la 9 0 14)) (.tmp (rT H) (.tmp (rT H) .nil))), ?_⟩
  refine ⟨.tuple [.agg [.str ([] : List UInt8), .str ([] : List UInt8), Ab 0, Ai 0, Ai 0, Ai 0, .str ([] : List UInt8), .str ([] : List UInt8), Ai 0, Ai 0, Ai 0, Ai 0, vs C0 ([] : List Cc), .str ([] : List UInt8)], Ai x4, Ai 0], h13, by first | rfl | (simp only [M5, Ma, NF, NB, Mz, M0, Mm, Mf, NI, MZ, My, Ic, Io, Iq, IQ, Ig, IK, Ir, Option.map_some] <;> rfl), ?_⟩
  replace A := A.d6
  exact ⟨rfl, A⟩
 refine F3 2 id (BV 2 [(3, .ptr (some (h.size, 0))), (4, .ptr (some (h1.size, 0))), (6, .ptr (some (h3.size, 0))), (27, .slice (some (h4.size, 0)) 5), (28, Ai 5), (29, Ai 4)] H fun fr H => BD id (IJ (by kernel_rfl) ?_))
 refine AF 1 (AP 1 [(30, .bool true)] H fun fr H => AR (IF (x := .tmp 30) (by kernel_rfl) H (fun fr => by kernel_rfl) ?_))
 refine B0 id (AR (Af (id := 1) (by kernel_rfl) ?_))
 refine AF 3 (Ah 1 [] 32 8 4 A H fun fr t H => ?_)
 refine B1 1 [(11, .func (.func 27) [.ptr (some (bp0, 0))] [])] 4 H fun fr H => BA 1 [(33, .func (.func 27) [.ptr (some (bp0, 0))] [])] 34 _ _ H (fun fr => .of (B3 (by kernel_rfl) (A.F5 10 rfl (o := 0) (n := 14) ⟨Nat.le_of_ble_eq_true rfl, rfl⟩))) fun fr t H => ?_
 obtain ⟨x6, hx, hm⟩ := bind_some hm
 obtain ⟨v1, h14, hr, rfl, A1⟩ := HF (av := [.ptr (some (bp0, 0)), .agg (Aa p1)]) hx (A.cut 6)
 replace A : HH g h14 [.obj bp0 (.cells none 2 [_, _, _, _, _, _, _, _, _, _, _, _, _, _, _, _, _, _]), .AK rp0_14 93 (AK (eP AE) p0.Aj), .AK rp0_15 93 (AK (eP AE) p0.Ak), .obj bp0_16 (.cells none 2 [AH rp0_16_0 p0.Aq.l_.length, Ai p0.Aq.Cm]), .AK rp0_16_0 99 (AK (eP AU) p0.Aq.l_), .obj bp0_17 (.cells none 2 ([Ai x5.n_, Ai x5.Az] ++ (DC 257 (AB.int .i64) x5.Bl ++ []))), _, _, _, _, _] F := A.Cp (n := 6) A1
 refine A8 35 hr H fun fr t H => ?_
 refine B1 1 [(12, Ai x6)] 2 H fun fr H => AP 2 [(37, .bool (x6 != 0))] H fun fr H => Ae 37 H hm (fun hb hm H => ?_) fun hb hm H => ?_
 ·refine AF 5 ?_
  obtain ⟨h15, hx, A⟩ := A.s9 0 [.str ([] : List UInt8), .str ([] : List UInt8), Ab 0, Ai 0, Ai 0, Ai 0, .str ([] : List UInt8), .str ([] : List UInt8), Ai 0, Ai 0, Ai 0, Ai 0, .slice none 0, .str ([] : List UInt8)] [_, _, _, _, _, _, _, _, _, _, _, _, _, _]
  refine Dm 2 [(39, Ai x6)] hx H fun fr t H => ?_
  refine AP 2 [(7, Ai x6), (8, Ai 0)] H fun fr H => AY ?_
  obtain ⟨rfl, rfl, rfl, rfl⟩ := M3 hm
  refine ⟨.inl rfl, .tuple [.agg [.str ([] : List UInt8), .str ([] : List UInt8), Ab 0, Ai 0, Ai 0, Ai 0, .str ([] : List UInt8), .str ([] : List UInt8), Ai 0, Ai 0, Ai 0, Ai 0, .slice none 0, .str ([] : List UInt8)], Ai x6, Ai 0], B8 (.cell (rT H) (BL (by kernel_rfl) (by kernel_rfl) (A.la 9 0 14)) (.tmp (rT H) (.tmp (rT H) .nil))), ?_⟩
  refine ⟨.tuple [.agg [.str ([] : List UInt8), .str ([] : List UInt8), Ab 0, Ai 0, Ai 0, Ai 0, .str ([] : List UInt8), .str ([] : List UInt8), Ai 0, Ai 0, Ai 0, Ai 0, vs C0 ([] : List Cc), .str ([] : List UInt8)], Ai x6, Ai 0], h15, by first | rfl | (simp only [M5, Ma, NF, NB, Mz, M0, Mm, Mf, NI, MZ, My, Ic, Io, Iq, IQ, Ig, IK, Ir, Option.map_some] <;> rfl), ?_⟩
  replace A := A.d6
  exact ⟨rfl, A⟩
 refine F3 2 id (BV 2 [(3, .ptr (some (h.size, 0))), (4, .ptr (some (h1.size, 0))), (6, .ptr (some (h3.size, 0))), (27, .slice (some (h4.size, 0)) 5), (28, Ai 5), (29, Ai 5)] H fun fr H => BD id (IJ (by kernel_rfl) ?_))
 refine AF 1 (AP 1 [(30, .bool false)] H fun fr H => AR (Jj (x := .tmp 30) (by kernel_rfl) H (fun fr => by kernel_rfl) ?_))
 refine Bz (i := 0) (by kernel_rfl) ?_
 show AW _ _ _ _ _ _ _
 refine AR (Df 9 13 ?_)
 refine Ah 1 [] 43 10 0 A H fun fr t H => ?_
 refine GI 44 7 0 A H fun fr t H => ?_
 refine Ah 3 [] 48 0 10 A H fun fr t H => ?_
 obtain ⟨⟨x7, x8⟩, hx, hm⟩ := bind_some hm
 obtain ⟨v1, h16, hr, rfl, A1⟩ := Is (av := [.str p1.Name, Ai p0.c_.Bf]) hx (A.cut 0)
 replace A := A.C4 A1
 refine A8 49 hr H fun fr t H => ?_
 obtain ⟨h17, hx, A1⟩ := A.st 10 rfl (o := 0) (new := [.str x7]) (ds := (D5 p1 (.str x7))) (Nat.le_of_ble_eq_true rfl) rfl rfl
 replace A : HH g h17 [_, _, _, _, _, _, _, _, _, _, .obj h1.size (.cells none 2 (D5 p1 (.str x7)))] F := A1
 refine Dn 4 [] hx H fun fr t H => ?_
 refine BD id (AR ?_)
 obtain ⟨o1, ho, hm⟩ := bind_some hm
 refine BU (Q' := fun e fr' h' => (∃ x9, e = .normal ∧ x9 = o1 ∧ Has fr' 83 [(3, .ptr (some (h.size, 0))), (4, .ptr (some (h1.size, 0))), (6, .ptr (some (h3.size, 0)))] ∧ HH g h' [.obj bp0 (.cells none 2 [vs AA p0.c_.AQ, vs AA p0.c_.AS, vs AL p0.c_.Bt, .bool p0.c_.FT, .bool p0.c_.Ay, Ai p0.c_.BN, .bool p0.c_.Be, Ai p0.c_.An.CX, Ai p0.c_.An.BS, Ai p0.c_.Eu, Ai p0.c_.Bf, Ai p0.c_.Name, Ai p0.c_.Head, Ai p0.c_.BF, AH rp0_14 p0.Aj.length, AH rp0_15 p0.Ak.length, .ptr (some (bp0_16, 0)), .ptr (some (bp0_17, 0))]), .AK rp0_14 93 (AK (eP AE) p0.Aj), .AK rp0_15 93 (AK (eP AE) p0.Ak), .obj bp0_16 (.cells none 2 [AH rp0_16_0 p0.Aq.l_.length, Ai p0.Aq.Cm]), .AK rp0_16_0 99 (AK (eP AU) p0.Aq.l_), .obj bp0_17 (.cells none 2 ([Ai x5.n_, Ai x5.Az] ++ (DC 257 (AB.int .i64) x5.Bl ++ []))), .obj h2.size (.cells none 2 [.ptr none]), .obj h.size (.cells none 2 [.ptr (some (bp0, 0))]), .obj h4.size (.cells (some 82) 2 [.func (.func 24) [.ptr (some (bp0, 0))] [], .func (.func 22) [] [.ptr (some (h2.size, 0)), .ptr (some (h.size, 0))], .func (.func 25) [.ptr (some (bp0, 0))] [], .func (.func 26) [.ptr (some (bp0, 0))] [], .func (.func 27) [.ptr (some (bp0, 0))] []]), .obj h3.size (.cells none 2 [.str ([] : List UInt8), .str ([] : List UInt8), Ab 0, Ai 0, Ai 0, Ai 0, .str ([] : List UInt8), .str ([] : List UInt8), Ai 0, Ai 0, Ai 0, Ai 0, .slice none 0, .str ([] : List UInt8)]), .obj h1.size (.cells none 2 (Fv p1 (.str x7) (.str x9)))] F) ∨ False) ?_ ?_
 ·replace hm := ho
  clear ho
  refine AR (Df 10 13 ?_)
  refine Ah 1 [] 55 10 1 A H fun fr t H => ?_
  refine GI 56 7 0 A H fun fr t H => ?_
  refine Ah 3 [] 60 0 10 A H fun fr t H => ?_
  obtain ⟨⟨x10, x11⟩, hx, hm⟩ := bind_some hm
  obtain ⟨v1, h18, hr, rfl, A1⟩ := Is (av := [.str p1.Oy, Ai p0.c_.Bf]) hx (A.cut 0)
  replace A := A.C4 A1
  refine A8 61 hr H fun fr t H => ?_
  refine B1 5 [(13, .str x10), (14, .bool x11)] 6 H fun fr H => AG 2 [(65, .bool x11)] H fun fr H => A9 4 (fun fr' h' => h18 = h' ∧ Has fr' 83 [(3, .ptr (some (h.size, 0))), (4, .ptr (some (h1.size, 0))), (6, .ptr (some (h3.size, 0))), (13, .str x10), (69, .bool (x11 && (p1.Kind == 49)))]) ?_ ?_
  ·cases hb : (x11 : Bool) with
   | true =>
    replace H := H.kn 65 hb
    refine Ah 1 [] 67 10 2 A H fun fr t H => ?_
    exact AG 2 [(69, .bool (p1.Kind == 49))] H fun fr H => BK H hb
   | false =>
    replace H := H.kn 65 hb
    exact AG 4 [(69, .bool false)] H fun fr H => BK H hb
  intro t fr h' hK
  obtain ⟨e, H⟩ := hK
  subst e
  refine BD id (Ae 69 H hm (fun hb hm H => ?_) fun hb hm H => ?_)
  ·refine DQ 3 ?_
   obtain ⟨h19, hx, A1⟩ := A.st 10 rfl (o := 1) (new := [.str x10]) (ds := (Fv p1 (.str x7) (.str x10))) (Nat.le_of_ble_eq_true rfl) rfl rfl
   replace A : HH g h19 [_, _, _, _, _, _, _, _, _, _, .obj h1.size (.cells none 2 [_, .str x10, _, _, _, _, _, _, _, _, _, _, _, _])] F := A1
   refine Dn 2 [] hx H fun fr t H => ?_
   refine at_nil ?_
   exact .inl ⟨_, rfl, Ag hm, H.ls, A⟩
  exact Fz (.inl ⟨_, rfl, Ag hm, H.ls, A⟩)
 clear ho
 clear A
 intro e fr h20 hQ
 rcases hQ with ⟨x9, rfl, rfl, H, A⟩ | hF
 ·show AW _ _ _ _ _ _ _
  refine AR (JV 13 12 [(0, []), (1, []), (2, []), (3, []), (4, []), (9, []), (5, [9]), (6, []), (7, []), (8, []), (10, []), (11, [])] ?_)
  refine CT 73 (.ptr (some (bp0, 0))) h20 [(0, h.size)] (g.Bo) H (fun fr => .of (EP (by kernel_rfl) (A.l1 7 0))) (fun fr H => ?_)
  refine AG 2 [(75, .ptr (some (bp0, 16)))] H fun fr H => CT 76 (.ptr (some (bp0_16, 0))) h20 [(3, bp0), (0, h.size)] (g.Bo) H (fun fr => .of (EP (by kernel_rfl) (A.l1 0 16))) (fun fr H => ?_)
  refine CT 77 (.agg (Fv p1 (.str x7) (.str x9))) h20 [(4, h1.size), (3, bp0), (0, h.size)] (g.Bo) H (fun fr => .of (B3 (by kernel_rfl) (A.la 10 0 14))) (fun fr H => ?_)
  obtain ⟨h21, e6, A⟩ := A.pu (.cells none 2 [.str ([] : List UInt8), .str ([] : List UInt8), Ab 0, Ai 0, Ai 0, Ai 0, .str ([] : List UInt8), .str ([] : List UInt8), Ai 0, Ai 0, Ai 0, Ai 0, .slice none 0, .str ([] : List UInt8)])
  refine CT 15 (.ptr (some (h20.size, 0))) h21 [(9, h20.size), (4, h1.size), (3, bp0), (0, h.size)] (g.Bo) H (fun fr => .of (TQ (by kernel_rfl) (congrArg some e6.symm))) (fun fr H => ?_)
  replace A : HH g h21 [_, _, .obj h20.size (.cells none 2 [.str ([] : List UInt8), .str ([] : List UInt8), Ab 0, Ai 0, Ai 0, Ai 0, .str ([] : List UInt8), .str ([] : List UInt8), Ai 0, Ai 0, Ai 0, Ai 0, .slice none 0, .str ([] : List UInt8)]), _, _, _, _, _, _, _, _, _] F := ((A.front 5 rfl).front 5 rfl)
  have A1 := A.Hz 2 (pr := [h20.size]) (.cons 0 rfl (by simp [Ck.ids]) .nil)
  obtain ⟨⟨x12, x13⟩, hx, hm⟩ := bind_some hm
  obtain ⟨v1, h22, hr, rfl, A1⟩ := Ib (av := [.ptr (some (bp0_16, 0)), .agg (Fv p1 (.str x7) (.str x9))]) hx A1
  replace A := A.YI A1
  refine CT 78 (.tuple [.agg (Aa x12), Ai x13]) h22 [(9, h20.size), (4, h1.size), (3, bp0), (0, h.size)] (h20.size :: g.Bo) H (fun fr => Steps.call (by kernel_rfl) hr) (fun fr H => ?_)
  refine AG 3 [(79, .agg (Aa x12)), (80, Ai x13)] H fun fr H => ?_
  obtain ⟨h23, hx, A⟩ := A.s2 0 (Aa x12) [_, _, _, _, _, _, _, _, _, _, _, _, _, _]
  refine H5 (.tuple []) h23 [(9, h20.size), (4, h1.size), (3, bp0), (0, h.size)] (g.Bo) H (fun fr => .of (LZ (by kernel_rfl) (JU hx rfl))) (fun fr H => ?_)
  refine B1 1 [(16, Ai x13)] 5 H fun fr H => As 81 _ _ H (fun fr => .of (B3 (by kernel_rfl) (A.F5 2 rfl (o := 0) (n := 14) ⟨Nat.le_of_ble_eq_true rfl, rfl⟩))) fun fr t H => ?_
  obtain ⟨h24, hx, A1⟩ := A.st 10 rfl (o := 0) (new := (Aa x12)) (ds := (Aa x12)) (Nat.le_of_ble_eq_true rfl) rfl rfl
  replace A : HH g h24 [_, _, _, _, _, _, _, _, _, _, .obj h3.size (.cells none 2 (Aa x12)), _] F := A1
  refine Dm 1 [(82, Ai x13)] hx H fun fr t H => ?_
  refine AP 2 [(7, Ai 0), (8, Ai x13)] H fun fr H => AY ?_
  obtain ⟨rfl, rfl, rfl, rfl⟩ := M3 hm
  refine ⟨.inl rfl, .tuple [.agg (Aa x12), Ai 0, Ai x13], B8 (.cell (rT H) (BL (by kernel_rfl) (by kernel_rfl) (A.la 10 0 14)) (.tmp (rT H) (.tmp (rT H) .nil))), ?_⟩
  refine ⟨.tuple [.agg (Aa x12), Ai 0, Ai x13], h24, by first | rfl | (simp only [M5, Ma, NF, NB, Mz, M0, Mm, Mf, NI, MZ, My, Ic, Io, Iq, IQ, Ig, IK, Ir, Option.map_some] <;> rfl), ?_⟩
  replace A := A.k6 3 4 5 0 1 6
  exact ⟨rfl, A⟩
 exact hF.elim
def CQ : Option (Bool) :=
 (Ii ([101, 120, 99, 108, 117, 100, 101, 32, 42, 46, 111, 10, 115, 116, 114, 105, 112, 32, 49] : List UInt8)).bind fun (x1, x2, x3) => (J3 x1).bind fun (w5, x5) => (match w5 with | some x4w4 => Ac (((x3 != 0) || (x5 != 0)) || false) (some false) ((Ch x4w4 (⟨([97, 46, 111] : List UInt8), ([] : List UInt8), (48 : Int), (0 : Int), (0 : Int), (0 : Int), ([] : List UInt8), ([] : List UInt8), (0 : Int), (0 : Int), (⟨(0 : Int), (0 : Int)⟩ : Bb), ([] : List Cc), ([] : List UInt8)⟩ : Bk)).bind fun (x6, x7, x8, x9) => (Ch (⟨x4w4.c_, x4w4.Aj, x4w4.Ak, x4w4.Aq, x9⟩ : B2) (⟨([97, 47, 98] : List UInt8), ([] : List UInt8), (48 : Int), (0 : Int), (0 : Int), (0 : Int), ([] : List UInt8), ([] : List UInt8), (0 : Int), (0 : Int), (⟨(0 : Int), (0 : Int)⟩ : Bb), ([] : List Cc), ([] : List UInt8)⟩ : Bk)).bind fun (x10, x11, x12, x13) => (Ch (⟨x4w4.c_, x4w4.Aj, x4w4.Ak, x4w4.Aq, x13⟩ : B2) (⟨([97] : List UInt8), ([] : List UInt8), (48 : Int), (0 : Int), (0 : Int), (0 : Int), ([] : List UInt8), ([] : List UInt8), (0 : Int), (0 : Int), (⟨(0 : Int), (0 : Int)⟩ : Bb), ([] : List Cc), ([] : List UInt8)⟩ : Bk)).bind fun (x14, x15, x16, x17) => some (((((x7 == 1) && (x11 == 0)) && (x12 == 0)) && (x10.Name == ([98] : List UInt8))) && (x15 == 8))) | none => Ac (((x3 != 0) || (x5 != 0)) || true) (some false) (none))
theorem C9 {q0} (hm : CQ = some q0) (A : HH g h [] F) (hc : Ba (cfg.still 4) av = [] := by kernel_rfl) : ∃ v h', Bi cfg g h 4 av v h' ∧ v = .bool q0 ∧ HH g h' [] F := by
 refine EN 75 [.tmp 0] hc ?_
 clear hc
 unfold CQ at hm
 refine bg 75 [] fun fr H => ?_
 refine AF 1 (B1 1 [] 9 H fun fr H => ?_)
 obtain ⟨⟨x1, x2, x3⟩, hx, hm⟩ := bind_some hm
 obtain ⟨v1, h1, hr, rfl, A1⟩ := Na (av := [.str ([101, 120, 99, 108, 117, 100, 101, 32, 42, 46, 111, 10, 115, 116, 114, 105, 112, 32, 49] : List UInt8)]) hx (A.cut 0)
 replace A := A.C4 A1
 refine A8 16 hr H fun fr t H => ?_
 obtain ⟨h2, e1, A⟩ := A.pu (.cells none 2 [.slice none 0, .slice none 0, .slice none 0, .bool false, .bool false, Ai 0, .bool false, Ai 0, Ai 0, Ai 0, Ai 0, Ai 0, Ai 0, Ai 0])
 refine Gf 4 [(17, .agg (Am x1)), (18, Ai x2), (19, Ai x3)] 1 (.ptr (some (h1.size, 0))) e1 H fun fr t H => ?_
 obtain ⟨h3, hx, A⟩ := A.s0 0 (Am x1) [_, _, _, _, _, _, _, _, _, _, _, _, _, _]
 refine Cy hx H fun fr t H => ?_
 refine B1 2 [(3, Ai x3)] 7 H fun fr H => As 21 _ _ H (fun fr => .of (B3 (by kernel_rfl) (A.F5 0 rfl (o := 0) (n := 14) ⟨Nat.le_of_ble_eq_true rfl, rfl⟩))) fun fr t H => ?_
 obtain ⟨⟨w5, x5⟩, hx, hm⟩ := bind_some hm
 obtain ⟨v1, h4, hr, hc⟩ := O2 (av := [.agg (Am x1)]) hx (A.cut 0)
 rcases hc with ⟨bx4w4, rx4w4_14, rx4w4_15, bx4w4_16, rx4w4_16_0, bx4w4_17, x4w4, rfl, rfl, A1⟩ | ⟨rfl, rfl, A1⟩
 ·replace A : HH g h4 [.obj bx4w4 (.cells none 2 [vs AA x4w4.c_.AQ, vs AA x4w4.c_.AS, vs AL x4w4.c_.Bt, .bool x4w4.c_.FT, .bool x4w4.c_.Ay, Ai x4w4.c_.BN, .bool x4w4.c_.Be, Ai x4w4.c_.An.CX, Ai x4w4.c_.An.BS, Ai x4w4.c_.Eu, Ai x4w4.c_.Bf, Ai x4w4.c_.Name, Ai x4w4.c_.Head, Ai x4w4.c_.BF, AH rx4w4_14 x4w4.Aj.length, AH rx4w4_15 x4w4.Ak.length, .ptr (some (bx4w4_16, 0)), .ptr (some (bx4w4_17, 0))]), .AK rx4w4_14 93 (AK (eP AE) x4w4.Aj), .AK rx4w4_15 93 (AK (eP AE) x4w4.Ak), .obj bx4w4_16 (.cells none 2 [AH rx4w4_16_0 x4w4.Aq.l_.length, Ai x4w4.Aq.Cm]), .AK rx4w4_16_0 99 (AK (eP AU) x4w4.Aq.l_), .obj bx4w4_17 (.cells none 2 ([Ai x4w4.Ar.n_, Ai x4w4.Ar.Az] ++ (DC 257 (AB.int .i64) x4w4.Ar.Bl ++ []))), _] F := A.Cp (n := 0) A1
  refine A8 22 hr H fun fr t H => ?_
  refine AP 5 [(4, .ptr (some (bx4w4, 0))), (5, Ai x5)] H fun fr H => AR (AF 10 (AG 3 [(27, .bool (x3 != 0))] H fun fr H => A9 3 (fun fr' h' => h4 = h' ∧ Has fr' 75 [(4, .ptr (some (bx4w4, 0))), (30, .bool ((x3 != 0) || (x5 != 0)))]) ?_ ?_))
  ·cases hb : (x3 != 0 : Bool) with
   | true =>
    replace H := H.kn 27 hb
    exact AG 3 [(30, .bool true)] H fun fr H => BK H hb
   | false =>
    replace H := H.kn 27 hb
    exact AG 3 [(30, .bool (x5 != 0))] H fun fr H => BK H hb
  intro t fr h' hK
  obtain ⟨e, H⟩ := hK
  subst e
  refine AG 1 [(31, .bool ((x3 != 0) || (x5 != 0)))] H fun fr H => A9 3 (fun fr' h' => h4 = h' ∧ Has fr' 75 [(4, .ptr (some (bx4w4, 0))), (34, .bool (((x3 != 0) || (x5 != 0)) || false))]) ?_ ?_
  ·cases hb : ((x3 != 0) || (x5 != 0) : Bool) with
   | true =>
    replace H := H.kn 31 hb
    exact AG 3 [(34, .bool true)] H fun fr H => BK H hb
   | false =>
    replace H := H.kn 31 hb
    exact AG 3 [(34, .bool false)] H fun fr H => BK H hb
  intro t fr h' hK
  obtain ⟨e, H⟩ := hK
  subst e
  refine BD id (Ae 34 H hm (fun hb hm H => ?_) fun hb hm H => ?_)
  ·refine AF 1 (AP 1 [(0, .bool false)] H fun fr H => AY ?_)
   obtain rfl := Ag hm
   refine ⟨.inl rfl, .bool false, rH H, ?_⟩
   replace A := A.d0
   exact ⟨rfl, A⟩
  refine CN 11 id ?_
  obtain ⟨⟨x6, x7, x8, x9⟩, hx, hm⟩ := bind_some hm
  obtain ⟨v1, h5, hr, rfl, A1⟩ := Dy (av := [.ptr (some (bx4w4, 0)), .agg [.str ([97, 46, 111] : List UInt8), .str ([] : List UInt8), Ab 48, Ai 0, Ai 0, Ai 0, .str ([] : List UInt8), .str ([] : List UInt8), Ai 0, Ai 0, Ai 0, Ai 0, .slice none 0, .str ([] : List UInt8)], .ptr none]) hx (A.cut 6)
  replace A : HH g h5 [.obj bx4w4 (.cells none 2 [_, _, _, _, _, _, _, _, _, _, _, _, _, _, _, _, _, _]), .AK rx4w4_14 93 (AK (eP AE) x4w4.Aj), .AK rx4w4_15 93 (AK (eP AE) x4w4.Ak), .obj bx4w4_16 (.cells none 2 [AH rx4w4_16_0 x4w4.Aq.l_.length, Ai x4w4.Aq.Cm]), .AK rx4w4_16_0 99 (AK (eP AU) x4w4.Aq.l_), .obj bx4w4_17 (.cells none 2 ([Ai x9.n_, Ai x9.Az] ++ (DC 257 (AB.int .i64) x9.Bl ++ []))), _] F := A.Cp (n := 6) A1
  refine Ap 2 [] 38 hr H fun fr t H => ?_
  obtain ⟨h6, e2, A⟩ := A.pu (.cells none 2 [.str ([] : List UInt8), .str ([] : List UInt8), Ab 0, Ai 0, Ai 0, Ai 0, .str ([] : List UInt8), .str ([] : List UInt8), Ai 0, Ai 0, Ai 0, Ai 0, .slice none 0, .str ([] : List UInt8)])
  refine Gf 4 [(39, .agg (Aa x6)), (40, Ai x7), (41, Ai x8)] 6 (.ptr (some (h5.size, 0))) e2 H fun fr t H => ?_
  obtain ⟨h7, hx, A⟩ := A.s0 0 (Aa x6) [_, _, _, _, _, _, _, _, _, _, _, _, _, _]
  refine Cy hx H fun fr t H => ?_
  refine B1 2 [(7, Ai x7)] 11 H fun fr H => ?_
  replace A := A.k8 1 2 3 4 5 6 0 7
  obtain ⟨⟨x10, x11, x12, x13⟩, hx, hm⟩ := bind_some hm
  obtain ⟨v1, h8, hr, rfl, A1⟩ := Dy (av := [.ptr (some (bx4w4, 0)), .agg [.str ([97, 47, 98] : List UInt8), .str ([] : List UInt8), Ab 48, Ai 0, Ai 0, Ai 0, .str ([] : List UInt8), .str ([] : List UInt8), Ai 0, Ai 0, Ai 0, Ai 0, .slice none 0, .str ([] : List UInt8)], .ptr none]) hx (A.cut 6)
  replace A : HH g h8 [.obj bx4w4 (.cells none 2 [_, _, _, _, _, _, _, _, _, _, _, _, _, _, _, _, _, _]), .AK rx4w4_14 93 (AK (eP AE) x4w4.Aj), .AK rx4w4_15 93 (AK (eP AE) x4w4.Ak), .obj bx4w4_16 (.cells none 2 [AH rx4w4_16_0 x4w4.Aq.l_.length, Ai x4w4.Aq.Cm]), .AK rx4w4_16_0 99 (AK (eP AU) x4w4.Aq.l_), .obj bx4w4_17 (.cells none 2 ([Ai x13.n_, Ai x13.Az] ++ (DC 257 (AB.int .i64) x13.Bl ++ []))), _, _] F := A.Cp (n := 6) A1
  refine Ap 2 [] 45 hr H fun fr t H => ?_
  obtain ⟨h9, e3, A⟩ := A.pu (.cells none 2 [.str ([] : List UInt8), .str ([] : List UInt8), Ab 0, Ai 0, Ai 0, Ai 0, .str ([] : List UInt8), .str ([] : List UInt8), Ai 0, Ai 0, Ai 0, Ai 0, .slice none 0, .str ([] : List UInt8)])
  refine Gf 4 [(46, .agg (Aa x10)), (47, Ai x11), (48, Ai x12)] 9 (.ptr (some (h8.size, 0))) e3 H fun fr t H => ?_
  obtain ⟨h10, hx, A⟩ := A.s0 0 (Aa x10) [_, _, _, _, _, _, _, _, _, _, _, _, _, _]
  refine Cy hx H fun fr t H => ?_
  refine B1 2 [(10, Ai x11), (11, Ai x12)] 11 H fun fr H => ?_
  replace A := A.k9 1 2 3 4 5 6 0 7 8
  obtain ⟨⟨x14, x15, x16, x17⟩, hx, hm⟩ := bind_some hm
  obtain ⟨v1, h11, hr, rfl, A1⟩ := Dy (av := [.ptr (some (bx4w4, 0)), .agg [.str ([97] : List UInt8), .str ([] : List UInt8), Ab 48, Ai 0, Ai 0, Ai 0, .str ([] : List UInt8), .str ([] : List UInt8), Ai 0, Ai 0, Ai 0, Ai 0, .slice none 0, .str ([] : List UInt8)], .ptr none]) hx (A.cut 6)
  replace A : HH g h11 [.obj bx4w4 (.cells none 2 [_, _, _, _, _, _, _, _, _, _, _, _, _, _, _, _, _, _]), .AK rx4w4_14 93 (AK (eP AE) x4w4.Aj), .AK rx4w4_15 93 (AK (eP AE) x4w4.Ak), .obj bx4w4_16 (.cells none 2 [AH rx4w4_16_0 x4w4.Aq.l_.length, Ai x4w4.Aq.Cm]), .AK rx4w4_16_0 99 (AK (eP AU) x4w4.Aq.l_), .obj bx4w4_17 (.cells none 2 ([Ai x17.n_, Ai x17.Az] ++ (DC 257 (AB.int .i64) x17.Bl ++ []))), _, _, _] F := A.Cp (n := 6) A1
  refine Ap 2 [] 52 hr H fun fr t H => ?_
  obtain ⟨h12, e4, A⟩ := A.pu (.cells none 2 [.str ([] : List UInt8), .str ([] : List UInt8), Ab 0, Ai 0, Ai 0, Ai 0, .str ([] : List UInt8), .str ([] : List UInt8), Ai 0, Ai 0, Ai 0, Ai 0, .slice none 0, .str ([] : List UInt8)])
  refine Gf 4 [(53, .agg (Aa x14)), (54, Ai x15), (55, Ai x16)] 12 (.ptr (some (h11.size, 0))) e4 H fun fr t H => ?_
  obtain ⟨h13, hx, A⟩ := A.s0 0 (Aa x14) [_, _, _, _, _, _, _, _, _, _, _, _, _, _]
  refine Cy hx H fun fr t H => ?_
  refine B1 2 [(13, Ai x15)] 20 H fun fr H => AG 3 [(58, .bool (x7 == 1))] H fun fr H => A9 3 (fun fr' h' => h13 = h' ∧ Has fr' 75 [(9, .ptr (some (h8.size, 0))), (11, Ai x12), (13, Ai x15), (61, .bool ((x7 == 1) && (x11 == 0)))]) ?_ ?_
  ·cases hb : (x7 == 1 : Bool) with
   | true =>
    replace H := H.kn 58 hb
    exact AG 3 [(61, .bool (x11 == 0))] H fun fr H => BK H hb
   | false =>
    replace H := H.kn 58 hb
    exact AG 3 [(61, .bool false)] H fun fr H => BK H hb
  intro t fr h' hK
  obtain ⟨e, H⟩ := hK
  subst e
  refine AG 1 [(62, .bool ((x7 == 1) && (x11 == 0)))] H fun fr H => A9 3 (fun fr' h' => h13 = h' ∧ Has fr' 75 [(9, .ptr (some (h8.size, 0))), (13, Ai x15), (65, .bool (((x7 == 1) && (x11 == 0)) && (x12 == 0)))]) ?_ ?_
  ·cases hb : ((x7 == 1) && (x11 == 0) : Bool) with
   | true =>
    replace H := H.kn 62 hb
    exact AG 3 [(65, .bool (x12 == 0))] H fun fr H => BK H hb
   | false =>
    replace H := H.kn 62 hb
    exact AG 3 [(65, .bool false)] H fun fr H => BK H hb
  intro t fr h' hK
  obtain ⟨e, H⟩ := hK
  subst e
  refine AG 1 [(66, .bool (((x7 == 1) && (x11 == 0)) && (x12 == 0)))] H fun fr H => A9 4 (fun fr' h' => h13 = h' ∧ Has fr' 75 [(13, Ai x15), (70, .bool ((((x7 == 1) && (x11 == 0)) && (x12 == 0)) && (x10.Name == ([98] : List UInt8))))]) ?_ ?_
  ·cases hb : (((x7 == 1) && (x11 == 0)) && (x12 == 0) : Bool) with
   | true =>
    replace H := H.kn 66 hb
    refine Ah 1 [] 68 7 0 A H fun fr t H => ?_
    exact AG 2 [(70, .bool (x10.Name == ([98] : List UInt8)))] H fun fr H => BK H hb
   | false =>
    replace H := H.kn 66 hb
    exact AG 4 [(70, .bool false)] H fun fr H => BK H hb
  intro t fr h' hK
  obtain ⟨e, H⟩ := hK
  subst e
  refine AG 1 [(71, .bool ((((x7 == 1) && (x11 == 0)) && (x12 == 0)) && (x10.Name == ([98] : List UInt8))))] H fun fr H => A9 3 (fun fr' h' => h13 = h' ∧ Has fr' 75 [(74, .bool (((((x7 == 1) && (x11 == 0)) && (x12 == 0)) && (x10.Name == ([98] : List UInt8))) && (x15 == 8)))]) ?_ ?_
  ·cases hb : ((((x7 == 1) && (x11 == 0)) && (x12 == 0)) && (x10.Name == ([98] : List UInt8)) : Bool) with
   | true =>
    replace H := H.kn 71 hb
    exact AG 3 [(74, .bool (x15 == 8))] H fun fr H => BK H hb
   | false =>
    replace H := H.kn 71 hb
    exact AG 3 [(74, .bool false)] H fun fr H => BK H hb
  intro t fr h' hK
  obtain ⟨e, H⟩ := hK
  subst e
  refine AP 1 [(0, .bool (((((x7 == 1) && (x11 == 0)) && (x12 == 0)) && (x10.Name == ([98] : List UInt8))) && (x15 == 8)))] H fun fr H => AY ?_
  obtain rfl := Ag hm
  refine ⟨.inl rfl, .bool (((((x7 == 1) && (x11 == 0)) && (x12 == 0)) && (x10.Name == ([98] : List UInt8))) && (x15 == 8)), rH H, ?_⟩
  replace A := A.d0
  exact ⟨rfl, A⟩
 replace A := A.C4 A1
 refine A8 22 hr H fun fr t H => ?_
 refine AP 5 [(4, .ptr none), (5, Ai x5)] H fun fr H => AR (AF 10 (AG 3 [(27, .bool (x3 != 0))] H fun fr H => A9 3 (fun fr' h' => h4 = h' ∧ Has fr' 75 [(4, .ptr none), (30, .bool ((x3 != 0) || (x5 != 0)))]) ?_ ?_))
 ·cases hb : (x3 != 0 : Bool) with
  | true =>
   replace H := H.kn 27 hb
   exact AG 3 [(30, .bool true)] H fun fr H => BK H hb
  | false =>
   replace H := H.kn 27 hb
   exact AG 3 [(30, .bool (x5 != 0))] H fun fr H => BK H hb
 intro t fr h' hK
 obtain ⟨e, H⟩ := hK
 subst e
 refine AG 1 [(31, .bool ((x3 != 0) || (x5 != 0)))] H fun fr H => A9 3 (fun fr' h' => h4 = h' ∧ Has fr' 75 [(4, .ptr none), (34, .bool (((x3 != 0) || (x5 != 0)) || true))]) ?_ ?_
 ·cases hb : ((x3 != 0) || (x5 != 0) : Bool) with
  | true =>
   replace H := H.kn 31 hb
   exact AG 3 [(34, .bool true)] H fun fr H => BK H hb
  | false =>
   replace H := H.kn 31 hb
   exact AG 3 [(34, .bool true)] H fun fr H => BK H hb
 intro t fr h' hK
 obtain ⟨e, H⟩ := hK
 subst e
 refine BD id (Ae 34 H hm (fun hb hm H => ?_) fun hb hm H => ?_)
 ·refine AF 1 (AP 1 [(0, .bool false)] H fun fr H => AY ?_)
  obtain rfl := Ag hm
  refine ⟨.inl rfl, .bool false, rH H, ?_⟩
  replace A := A.d0
  exact ⟨rfl, A⟩
 refine CN 11 id ?_
 cases hm
def CC (p0 : List AD) (p1 : Int) (s : (List AV) × Int) : Option (((List AV) × Int) ⊕ (((List AV)) ⊕ (Int))) :=
 match s with
 | (x1, x2) => Ac (decide (x2 < (p0.length : Int))) ((HO p0 x2).bind fun x5 => (EO x5 p1).bind fun (w2, x7, x8) => (match w2 with | some x6 => Ac (x8 != 0) (some (.inr (.inr x8))) (Ca (Lw 8 (x1.length + ([x6] : List AV).length)) <| some (.inl ((x1 ++ ([x6] : List AV)), IntKind.i64.wrap (x2 + 1)))) | none => Ac (x8 != 0) (some (.inr (.inr x8))) (none))) (some (.inr (.inl x1)))
def CU (p0 : List AD) (p1 : Int) : Option ((List AV) × Int) :=
 (loop (CC p0 p1) (([] : List AV), (0 : Int))).bind fun o1 => (match o1 with | .inl x3 => some (x3, (0 : Int)) | .inr x4 => some (([] : List AV), x4))
theorem Gz {p0 p1 rp0 q0 q1} (hm : CU p0 p1 = some (q0, q1)) (A : HH g h [.AK rp0 31 (AK AA p0)] F) (hc : Ba (cfg.still 13) av = [AH rp0 p0.length, Ai p1] := by kernel_rfl) : ∃ v h', Bi cfg g h 13 av v h' ∧ ∃ (rq0 : Option Nat), v = .tuple [AH rq0 q0.length, Ai q1] ∧ HH g h' [.AK rq0 93 (AK (eP AE) q0), .AK rp0 31 (AK AA p0)] F := by
 refine EN 34 [.tmp 4, .tmp 5] hc ?_
 clear hc
 unfold CU at hm
 refine bg 34 [(0, AH rp0 p0.length), (1, Ai p1)] fun fr H => ?_
 refine AF 2 (B1 2 [] 1 H fun fr H => AP 1 [(6, .slice none 0)] H fun fr H => AR (AF 3 (AP 3 [(12, AH rp0 p0.length), (13, Ai (p0.length : Int)), (14, Ai 0)] H fun fr H => Af (id := 0) (by kernel_rfl) ?_)))
 replace A : HH g h [.AK none 93 (AK (eP AE) ([] : List AV)), _] F := A.KI 93
 obtain ⟨o1, ho, hm⟩ := bind_some hm
 refine BU (Q' := fun e fr' h' => (∃ x3, e = .exit 0 ∧ .inl x3 = o1 ∧ ∃ r2, Has fr' 34 [(6, AH r2 x3.length)] ∧ HH g h' [.AK r2 93 (AK (eP AE) x3), .AK rp0 31 (AK AA p0)] F) ∨ (∃ x4, e = .ret ∧ .inr x4 = o1 ∧ Has fr' 34 [(4, .slice none 0), (5, Ai x4)] ∧ HH g h' [.AK rp0 31 (AK AA p0)] F) ∨ False) ?_ ?_
 ·refine CH (by kernel_rfl) (fun (s : (List AV) × Int) fr' h' => ∃ x1 x2, (x1, x2) = s ∧ ∃ r1, Has fr' 34 [(1, Ai p1), (6, AH r1 x1.length), (12, AH rp0 p0.length), (13, Ai (p0.length : Int)), (14, Ai x2)] ∧ HH g h' [.AK r1 93 (AK (eP AE) x1), .AK rp0 31 (AK AA p0)] F) ho ⟨_, _, rfl, none, H.ls, A⟩ ?_
  clear ho hm H A
  intro s q fr h1 hI hm
  obtain ⟨x1, x2, rfl, r1, H, A⟩ := hI
  unfold CC at hm
  refine AF 1 (AP 1 [(15, .bool (decide (x2 < (p0.length : Int))))] H fun fr H => AR (Ae 15 H hm (fun hb hm H => ?_) fun hb hm H => ?_))
  ·refine B0 id (AR (Af (id := 1) (by kernel_rfl) ?_))
   refine AF 4 ?_
   obtain ⟨x5, hx, hm⟩ := bind_some hm
   obtain ⟨i1, er1, _, hx, hq1⟩ := HH.Nk BQ (by decide) A 1 (xs := p0) rfl hx
   refine As 16 (.ptr (some (i1, x2.toNat * 4))) h1 H (fun fr => .of (Fg (s := De rp0 p0.length) (by kernel_rfl) hx)) fun fr t H => ?_
   refine As 17 _ _ H (fun fr => .of (B3 (by kernel_rfl) (LG BQ (HH.row A 1 rfl er1) hq1 0 4 (Nat.le_of_ble_eq_true rfl)))) fun fr t H => ?_
   obtain ⟨h2, e1, A⟩ := A.pu (.cells none 2 [.str ([] : List UInt8), .bool false, .bool false, .bool false])
   refine BP 8 (.ptr (some (h1.size, 0))) e1 H fun fr t H => ?_
   obtain ⟨h3, hx, A⟩ := A.s0 0 (AA x5) [_, _, _, _]
   refine Cy hx H fun fr t H => ?_
   refine CI 10 id (As 19 _ _ H (fun fr => .of (B3 (by kernel_rfl) (A.F5 0 rfl (o := 0) (n := 4) ⟨Nat.le_of_ble_eq_true rfl, rfl⟩))) fun fr t H => ?_)
   obtain ⟨⟨w2, x7, x8⟩, hx, hm⟩ := bind_some hm
   obtain ⟨v1, h4, hr, hc⟩ := K2 (av := [.agg (AA x5), Ai p1]) hx (A.cut 0)
   rcases hc with ⟨x6, rfl, rfl, A1⟩ | ⟨rfl, rfl, A1⟩
   ·replace A := A.C4 A1
    refine Ap 1 [] 21 hr H fun fr t H => ?_
    refine AP 7 [(9, .BR (AE x6)), (11, Ai x8)] H fun fr H => AR (AF 2 (AP 2 [(26, .bool (x8 != 0))] H fun fr H => Ae 26 H hm (fun hb hm H => ?_) fun hb hm H => ?_))
    ·refine AF 3 (AP 3 [(4, .slice none 0), (5, Ai x8)] H fun fr H => AY ?_)
     replace A := A.k1 2
     exact nr hm fun e => Or.inr (.inl ⟨_, rfl, e, H.ls, A⟩)
    refine F3 5 id (AG 2 [(28, AH r1 x1.length), (29, .BR (AE x6))] H fun fr H => ?_)
    obtain ⟨h5, e2, A⟩ := A.pL 93 [.BR (AE x6)]
    refine BP 30 (AH (some h4.size) (([x6] : List AV).length)) e2 H fun fr t H => ?_
    obtain ⟨hb, hm⟩ := BE hm
    obtain ⟨r3, h6, hx, A1⟩ := HH.J2 (Sx _) (by decide) A 2 (xs := x1) (ys := ([x6] : List AV)) rfl (Cl A 0 rfl (n := ([x6] : List AV).length) (z := 1) rfl (by decide)) rfl rfl hb
    replace A : HH g h6 [.AK (some h4.size) 93 ([.BR (AE x6)]), _, .AK r3 93 (AK (eP AE) (x1 ++ ([x6] : List AV))), _] F := A1
    replace A := A.k3 1 2 3
    refine As 31 _ _ H (fun fr => .of (G3 (s := De r1 x1.length) (by kernel_rfl) hx)) fun fr t H => ?_
    refine BV 1 [(1, Ai p1), (6, AH r3 ((x1 ++ ([x6] : List AV)).length)), (12, AH rp0 p0.length), (13, Ai (p0.length : Int)), (14, Ai x2)] H fun fr H => F4 2 id (BV 2 [(1, Ai p1), (6, AH r3 ((x1 ++ ([x6] : List AV)).length)), (12, AH rp0 p0.length), (13, Ai (p0.length : Int)), (14, Ai (IntKind.i64.wrap (x2 + 1)))] H fun fr H => at_nil ?_)
    replace A := A.k2 1 2
    exact nx hm ⟨_, _, rfl, _, H.ls, A⟩
   replace A := A.C4 A1
   refine Ap 1 [] 21 hr H fun fr t H => ?_
   refine AP 7 [(9, .ptr none), (11, Ai x8)] H fun fr H => AR (AF 2 (AP 2 [(26, .bool (x8 != 0))] H fun fr H => Ae 26 H hm (fun hb hm H => ?_) fun hb hm H => ?_))
   ·refine AF 3 (AP 3 [(4, .slice none 0), (5, Ai x8)] H fun fr H => AY ?_)
    replace A := A.k1 2
    exact nr hm fun e => Or.inr (.inl ⟨_, rfl, e, H.ls, A⟩)
   refine F3 5 id (AG 2 [(28, AH r1 x1.length), (29, .ptr none)] H fun fr H => ?_)
   cases hm
  refine Bz (i := 0) (by kernel_rfl) ?_
  exact nr hm fun e => .inl ⟨_, rfl, e, _, H.ls, A⟩
 clear ho
 clear A
 intro e fr h7 hQ
 rcases hQ with ⟨x3, rfl, rfl, r2, H, A⟩ | ⟨x4, rfl, rfl, H, A⟩ | hF
 ·show AW _ _ _ _ _ _ _
  refine AF 3 (AP 3 [(4, AH r2 x3.length), (5, Ai 0)] H fun fr H => AY ?_)
  obtain ⟨rfl, rfl⟩ := B6 hm
  exact ⟨.inl rfl, _, rH H, _, rfl, A⟩
 ·obtain ⟨rfl, rfl⟩ := B6 hm
  refine ⟨.inl rfl, .tuple [.slice none 0, Ai x4], rH H, ?_⟩
  replace A : HH g h7 [.AK none 93 (AK (eP AE) ([] : List AV)), _] F := A.KI 93
  exact ⟨none, rfl, A⟩
 exact hF.elim
def EV (p0 : BI) : Option ((Option B2) × Int) :=
 (Dx (⟨p0.AQ, p0.AS, ([] : List Ao), p0.FT, p0.Ay, p0.BN, p0.Be, p0.An, p0.Eu, p0.Bf, p0.Name, p0.Head, p0.BF⟩ : BI)).bind fun x1 => Ac (!x1) (some (none, (6 : Int))) (Ac ((decide ((IntKind.i64.wrap ((p0.AQ.length : Int) + (p0.AS.length : Int))) > 256)) || false) (some (none, (8 : Int))) ((Ed (⟨p0.AQ, p0.AS, ([] : List Ao), p0.FT, p0.Ay, p0.BN, p0.Be, p0.An, p0.Eu, p0.Bf, p0.Name, p0.Head, p0.BF⟩ : BI)).bind fun x2 => (CU p0.AQ p0.BF).bind fun (x3, x4) => Ac (x4 != 0) (some (none, x4)) ((CU p0.AS p0.BF).bind fun (x5, x6) => Ac (x6 != 0) (some (none, x6)) ((Gg x2.Bt p0.BF p0.Name).bind fun (w8, x8, x9) => (match w8 with | some x7w7 => Ac (x9 != 0) (some (none, x9)) ((FN p0.Eu (mx (p0.AQ.length : Int) (1 : Int))).bind fun (w12, x11) => (match w12 with | some x10w11 => some (some (⟨x2, x3, x5, x7w7, x10w11⟩ : B2), x11) | none => none)) | none => Ac (x9 != 0) (some (none, x9)) ((FN p0.Eu (mx (p0.AQ.length : Int) (1 : Int))).bind fun (w15, x13) => (match w15 with | some x12w14 => none | none => none)))))))
theorem LO {p0 rp0_0 rp0_1 o0 q1} (hm : EV p0 = some (o0, q1)) (A : HH g h [.AK rp0_0 31 (AK AA p0.AQ), .AK rp0_1 31 (AK AA p0.AS)] F) (hc : Ba (cfg.still 5) av = [.agg [AH rp0_0 p0.AQ.length, AH rp0_1 p0.AS.length, .slice none 0, .bool p0.FT, .bool p0.Ay, Ai p0.BN, .bool p0.Be, Ai p0.An.CX, Ai p0.An.BS, Ai p0.Eu, Ai p0.Bf, Ai p0.Name, Ai p0.Head, Ai p0.BF]] := by kernel_rfl) : ∃ v h', Bi cfg g h 5 av v h' ∧ ((∃ (bq00 : Nat) (rq00_14 : Option Nat) (rq00_15 : Option Nat) (bq00_16 : Nat) (rq00_16_0 : Option Nat) (bq00_17 : Nat) (q00 : B2), o0 = some q00 ∧ v = .tuple [.ptr (some (bq00, 0)), Ai q1] ∧ HH g h' [.obj bq00 (.cells none 2 [vs AA q00.c_.AQ, vs AA q00.c_.AS, vs AL q00.c_.Bt, .bool q00.c_.FT, .bool q00.c_.Ay, Ai q00.c_.BN, .bool q00.c_.Be, Ai q00.c_.An.CX, Ai q00.c_.An.BS, Ai q00.c_.Eu, Ai q00.c_.Bf, Ai q00.c_.Name, Ai q00.c_.Head, Ai q00.c_.BF, AH rq00_14 q00.Aj.length, AH rq00_15 q00.Ak.length, .ptr (some (bq00_16, 0)), .ptr (some (bq00_17, 0))]), .AK rq00_14 93 (AK (eP AE) q00.Aj), .AK rq00_15 93 (AK (eP AE) q00.Ak), .obj bq00_16 (.cells none 2 [AH rq00_16_0 q00.Aq.l_.length, Ai q00.Aq.Cm]), .AK rq00_16_0 99 (AK (eP AU) q00.Aq.l_), .obj bq00_17 (.cells none 2 ([Ai q00.Ar.n_, Ai q00.Ar.Az] ++ (DC 257 (AB.int .i64) q00.Ar.Bl ++ []))), .AK rp0_0 31 (AK AA p0.AQ), .AK rp0_1 31 (AK AA p0.AS)] F) ∨ (o0 = none ∧ v = .tuple [.ptr none, Ai q1] ∧ HH g h' [.AK rp0_0 31 (AK AA p0.AQ), .AK rp0_1 31 (AK AA p0.AS)] F)) := by
 refine EN 92 [.tmp 2, .tmp 3] hc ?_
 clear hc
 unfold EV at hm
 refine bg 92 [(0, .agg [AH rp0_0 p0.AQ.length, AH rp0_1 p0.AS.length, .slice none 0, .bool p0.FT, .bool p0.Ay, Ai p0.BN, .bool p0.Be, Ai p0.An.CX, Ai p0.An.BS, Ai p0.Eu, Ai p0.Bf, Ai p0.Name, Ai p0.Head, Ai p0.BF])] fun fr H => ?_
 refine AF 3 ?_
 obtain ⟨h1, e1, A⟩ := A.pu (.cells none 2 [AH rp0_0 p0.AQ.length, AH rp0_1 p0.AS.length, .slice none 0, .bool p0.FT, .bool p0.Ay, Ai p0.BN, .bool p0.Be, Ai p0.An.CX, Ai p0.An.BS, Ai p0.Eu, Ai p0.Bf, Ai p0.Name, Ai p0.Head, Ai p0.BF])
 refine BP 1 (.ptr (some (h.size, 0))) e1 H fun fr t H => ?_
 refine AP 2 [] H fun fr H => AR (Af (id := 0) (by kernel_rfl) ?_)
 refine AF 4 (As 7 _ _ H (fun fr => .of (B3 (by kernel_rfl) (A.F5 0 rfl (o := 0) (n := 14) ⟨Nat.le_of_ble_eq_true rfl, rfl⟩))) fun fr t H => ?_)
 replace A : HH g h1 [_, _, .obj h.size (.cells none 2 [AH rp0_0 p0.AQ.length, AH rp0_1 p0.AS.length, .slice none 0, .bool p0.FT, .bool p0.Ay, Ai p0.BN, .bool p0.Be, Ai p0.An.CX, Ai p0.An.BS, Ai p0.Eu, Ai p0.Bf, Ai p0.Name, Ai p0.Head, Ai p0.BF])] F := ((A.front 2 rfl).front 2 rfl)
 obtain ⟨x1, hx, hm⟩ := bind_some hm
 obtain ⟨v1, h2, hr, rfl, A1⟩ := KG (av := [.agg [AH rp0_0 p0.AQ.length, AH rp0_1 p0.AS.length, .slice none 0, .bool p0.FT, .bool p0.Ay, Ai p0.BN, .bool p0.Be, Ai p0.An.CX, Ai p0.An.BS, Ai p0.Eu, Ai p0.Bf, Ai p0.Name, Ai p0.Head, Ai p0.BF]]) hx (A.cut 2)
 replace A := A.g22 A1
 refine A8 8 hr H fun fr t H => ?_
 refine AP 2 [(6, .bool (!x1))] H fun fr H => Ae 6 H hm (fun hb hm H => ?_) fun hb hm H => ?_
 ·refine AF 2 (AP 2 [(2, .ptr none), (3, Ai 6)] H fun fr H => AY ?_)
  obtain ⟨rfl, rfl⟩ := B6 hm
  refine ⟨.inl rfl, .tuple [.ptr none, Ai 6], rH H, ?_⟩
  replace A := A.d2
  exact .inr ⟨rfl, rfl, A⟩
 refine AF 15 (Ah 1 [] 12 2 0 A H fun fr t H => ?_)
 refine Ah 2 [(13, Ai (p0.AQ.length : Int))] 15 2 1 A H fun fr t H => ?_
 refine AG 4 [(19, .bool (decide ((IntKind.i64.wrap ((p0.AQ.length : Int) + (p0.AS.length : Int))) > 256)))] H fun fr H => A9 5 (fun fr' h' => h2 = h' ∧ Has fr' 92 [(1, .ptr (some (h.size, 0))), (24, .bool ((decide ((IntKind.i64.wrap ((p0.AQ.length : Int) + (p0.AS.length : Int))) > 256)) || false))]) ?_ ?_
 ·cases hb : (decide ((IntKind.i64.wrap ((p0.AQ.length : Int) + (p0.AS.length : Int))) > 256) : Bool) with
  | true =>
   replace H := H.kn 19 hb
   exact AG 5 [(24, .bool true)] H fun fr H => BK H hb
  | false =>
   replace H := H.kn 19 hb
   refine Ah 1 [] 21 2 2 A H fun fr t H => ?_
   exact AG 3 [(24, .bool false)] H fun fr H => BK H hb
 intro t fr h' hK
 obtain ⟨e, H⟩ := hK
 subst e
 refine AP 1 [(10, .bool ((decide ((IntKind.i64.wrap ((p0.AQ.length : Int) + (p0.AS.length : Int))) > 256)) || false))] H fun fr H => Ae 10 H hm (fun hb hm H => ?_) fun hb hm H => ?_
 ·refine AF 2 (AP 2 [(2, .ptr none), (3, Ai 8)] H fun fr H => AY ?_)
  obtain ⟨rfl, rfl⟩ := B6 hm
  refine ⟨.inl rfl, .tuple [.ptr none, Ai 8], rH H, ?_⟩
  replace A := A.d2
  exact .inr ⟨rfl, rfl, A⟩
 refine CN 5 id (As 25 _ _ H (fun fr => .of (B3 (by kernel_rfl) (A.F5 2 rfl (o := 0) (n := 14) ⟨Nat.le_of_ble_eq_true rfl, rfl⟩))) fun fr t H => ?_)
 obtain ⟨x2, hx, hm⟩ := bind_some hm
 obtain ⟨v1, h3, hr, rfl, A1⟩ := Jr (av := [.agg [AH rp0_0 p0.AQ.length, AH rp0_1 p0.AS.length, .slice none 0, .bool p0.FT, .bool p0.Ay, Ai p0.BN, .bool p0.Be, Ai p0.An.CX, Ai p0.An.BS, Ai p0.Eu, Ai p0.Bf, Ai p0.Name, Ai p0.Head, Ai p0.BF]]) hx (A.cut 2)
 replace A := A.g22 A1
 refine A8 26 hr H fun fr t H => ?_
 obtain ⟨h4, e2, A⟩ := A.pu (.cells none 2 [vs AA x2.AQ, vs AA x2.AS, vs AL x2.Bt, .bool x2.FT, .bool x2.Ay, Ai x2.BN, .bool x2.Be, Ai x2.An.CX, Ai x2.An.BS, Ai x2.Eu, Ai x2.Bf, Ai x2.Name, Ai x2.Head, Ai x2.BF, .slice none 0, .slice none 0, .ptr none, .ptr none])
 refine Gf 1 [] 28 (.ptr (some (h3.size, 0))) e2 H fun fr t H => ?_
 refine B1 1 [(4, .ptr (some (h3.size, 0)))] 1 H fun fr H => AP 1 [] H fun fr H => AR (AF 13 (Ah 2 [(30, .ptr (some (h3.size, 0)))] 32 3 0 A H fun fr t H => ?_))
 refine Ah 1 [] 34 3 13 A H fun fr t H => ?_
 replace A : HH g h4 [_, .obj h3.size (.cells none 2 [vs AA x2.AQ, vs AA x2.AS, vs AL x2.Bt, .bool x2.FT, .bool x2.Ay, Ai x2.BN, .bool x2.Be, Ai x2.An.CX, Ai x2.An.BS, Ai x2.Eu, Ai x2.Bf, Ai x2.Name, Ai x2.Head, Ai x2.BF, .slice none 0, .slice none 0, .ptr none, .ptr none]), _, _] F := (A.front 1 rfl)
 obtain ⟨⟨x3, x4⟩, hx, hm⟩ := bind_some hm
 obtain ⟨v1, h5, hr, rqw3, rfl, A1⟩ := Gz (av := [AH rp0_0 p0.AQ.length, Ai p0.BF]) hx (A.cut 1)
 replace A := A.g12 A1
 refine A8 35 hr H fun fr t H => ?_
 obtain ⟨h6, hx, A⟩ := A.s2 14 [AH rqw3 x3.length] [_, _, _, _, _, _, _, _, _, _, _, _, _, _, _, _, _, _]
 refine Dn 5 [(37, Ai x4)] hx H fun fr t H => ?_
 refine B1 1 [(5, Ai x4)] 2 H fun fr H => AP 2 [(41, .bool (x4 != 0))] H fun fr H => Ae 41 H hm (fun hb hm H => ?_) fun hb hm H => ?_
 ·refine AF 3 (AP 3 [(2, .ptr none), (3, Ai x4)] H fun fr H => AY ?_)
  obtain ⟨rfl, rfl⟩ := B6 hm
  refine ⟨.inl rfl, .tuple [.ptr none, Ai x4], rH H, ?_⟩
  replace A := A.k2 1 3
  exact .inr ⟨rfl, rfl, A⟩
 refine B0 id (AR (AF 13 (Ah 2 [(44, .ptr (some (h3.size, 0)))] 46 4 1 A H fun fr t H => ?_)))
 refine Ah 1 [] 48 4 13 A H fun fr t H => ?_
 replace A := A.k5 3 0 1 2 4
 obtain ⟨⟨x5, x6⟩, hx, hm⟩ := bind_some hm
 obtain ⟨v1, h7, hr, rqw5, rfl, A1⟩ := Gz (av := [AH rp0_1 p0.AS.length, Ai p0.BF]) hx (A.cut 1)
 replace A := A.g12 A1
 refine A8 49 hr H fun fr t H => ?_
 obtain ⟨h8, hx, A⟩ := A.s4 15 [AH rqw5 x5.length] [_, _, _, _, _, _, _, _, _, _, _, _, _, _, _, _, _, _]
 refine Dn 5 [(51, Ai x6)] hx H fun fr t H => ?_
 refine BV 1 [(1, .ptr (some (h.size, 0))), (4, .ptr (some (h3.size, 0))), (5, Ai x6)] H fun fr H => CI 2 id (AP 2 [(55, .bool (x6 != 0))] H fun fr H => Ae 55 H hm (fun hb hm H => ?_) fun hb hm H => ?_)
 ·refine AF 3 (AP 3 [(2, .ptr none), (3, Ai x6)] H fun fr H => AY ?_)
  obtain ⟨rfl, rfl⟩ := B6 hm
  refine ⟨.inl rfl, .tuple [.ptr none, Ai x6], rH H, ?_⟩
  replace A := A.k2 3 1
  exact .inr ⟨rfl, rfl, A⟩
 refine B0 id (AR (AR (Df 13 19 ?_)))
 refine Ah 5 [(58, .ptr (some (h3.size, 0)))] 63 4 2 A H fun fr t H => ?_
 refine Ah 1 [] 65 5 13 A H fun fr t H => ?_
 refine Ah 1 [] 67 5 11 A H fun fr t H => ?_
 obtain ⟨⟨w8, x8, x9⟩, hx, hm⟩ := bind_some hm
 obtain ⟨v1, h9, hr, hc⟩ := MU (av := [vs AL x2.Bt, Ai p0.BF, Ai p0.Name]) hx (A.cut 0)
 rcases hc with ⟨bx7w7, rx7w7_0, x7w7, rfl, rfl, A1⟩ | ⟨rfl, rfl, A1⟩
 ·replace A := A.Xh A1
  refine A8 68 hr H fun fr t H => ?_
  obtain ⟨h10, hx, A⟩ := A.s6 16 [.ptr (some (bx7w7, 0))] [_, _, _, _, _, _, _, _, _, _, _, _, _, _, _, _, _, _]
  refine Dn 6 [(71, Ai x9)] hx H fun fr t H => ?_
  refine BV 1 [(1, .ptr (some (h.size, 0))), (4, .ptr (some (h3.size, 0))), (5, Ai x9)] H fun fr H => CI 2 id (AP 2 [(75, .bool (x9 != 0))] H fun fr H => Ae 75 H hm (fun hb hm H => ?_) fun hb hm H => ?_)
  ·refine AF 3 (AP 3 [(2, .ptr none), (3, Ai x9)] H fun fr H => AY ?_)
   obtain ⟨rfl, rfl⟩ := B6 hm
   refine ⟨.inl rfl, .tuple [.ptr none, Ai x9], rH H, ?_⟩
   replace A := A.k2 5 3
   exact .inr ⟨rfl, rfl, A⟩
  refine CN 15 id (Ah 2 [(78, .ptr (some (h3.size, 0)))] 80 7 9 A H fun fr t H => ?_)
  refine Ah 1 [] 82 7 0 A H fun fr t H => ?_
  obtain ⟨⟨w12, x11⟩, hx, hm⟩ := bind_some hm
  obtain ⟨v1, h11, hr, hc⟩ := ID (av := [Ai p0.Eu, Ai (mx (p0.AQ.length : Int) (1 : Int))]) hx (A.cut 0)
  rcases hc with ⟨bx10w11, x10w11, rfl, rfl, A1⟩ | ⟨rfl, rfl, A1⟩
  ·replace A := A.Ve A1
   refine Ap 2 [] 85 hr H fun fr t H => ?_
   obtain ⟨h12, hx, A⟩ := A.s7 17 [.ptr (some (bx10w11, 0))] [_, _, _, _, _, _, _, _, _, _, _, _, _, _, _, _, _, _]
   refine Dn 5 [(87, Ai x11)] hx H fun fr t H => ?_
   refine BV 1 [(4, .ptr (some (h3.size, 0))), (5, Ai x11)] H fun fr H => CI 4 id (AP 4 [(2, .ptr (some (h3.size, 0))), (3, Ai x11)] H fun fr H => AY ?_)
   obtain ⟨rfl, rfl⟩ := B6 hm
   refine ⟨.inl rfl, .tuple [.ptr (some (h3.size, 0)), Ai x11], rH H, ?_⟩
   replace A := A.k8 7 5 3 1 2 0 6 4
   exact .inl ⟨h3.size, rqw3, rqw5, bx7w7, rx7w7_0, bx10w11, (⟨x2, x3, x5, x7w7, x10w11⟩ : B2), rfl, rfl, A⟩
  replace A := A.C4 A1
  refine Ap 2 [] 85 hr H fun fr t H => ?_
  obtain ⟨h13, hx, A⟩ := A.s6 17 [.ptr none] [_, _, _, _, _, _, _, _, _, _, _, _, _, _, _, _, _, _]
  refine Dn 5 [(87, Ai x11)] hx H fun fr t H => ?_
  refine BV 1 [(4, .ptr (some (h3.size, 0))), (5, Ai x11)] H fun fr H => CI 4 id (AP 4 [(2, .ptr (some (h3.size, 0))), (3, Ai x11)] H fun fr H => AY ?_)
  cases hm
 replace A := A.C4 A1
 refine A8 68 hr H fun fr t H => ?_
 obtain ⟨h14, hx, A⟩ := A.s4 16 [.ptr none] [_, _, _, _, _, _, _, _, _, _, _, _, _, _, _, _, _, _]
 refine Dn 6 [(71, Ai x9)] hx H fun fr t H => ?_
 refine BV 1 [(1, .ptr (some (h.size, 0))), (4, .ptr (some (h3.size, 0))), (5, Ai x9)] H fun fr H => CI 2 id (AP 2 [(75, .bool (x9 != 0))] H fun fr H => Ae 75 H hm (fun hb hm H => ?_) fun hb hm H => ?_)
 ·refine AF 3 (AP 3 [(2, .ptr none), (3, Ai x9)] H fun fr H => AY ?_)
  obtain ⟨rfl, rfl⟩ := B6 hm
  refine ⟨.inl rfl, .tuple [.ptr none, Ai x9], rH H, ?_⟩
  replace A := A.k2 3 1
  exact .inr ⟨rfl, rfl, A⟩
 refine CN 15 id (Ah 2 [(78, .ptr (some (h3.size, 0)))] 80 5 9 A H fun fr t H => ?_)
 refine Ah 1 [] 82 5 0 A H fun fr t H => ?_
 obtain ⟨⟨w15, x13⟩, hx, hm⟩ := bind_some hm
 obtain ⟨v1, h15, hr, hc⟩ := ID (av := [Ai p0.Eu, Ai (mx (p0.AQ.length : Int) (1 : Int))]) hx (A.cut 0)
 rcases hc with ⟨bx12w14, x12w14, rfl, rfl, A1⟩ | ⟨rfl, rfl, A1⟩
 ·replace A := A.Ve A1
  refine Ap 2 [] 85 hr H fun fr t H => ?_
  obtain ⟨h16, hx, A⟩ := A.s5 17 [.ptr (some (bx12w14, 0))] [_, _, _, _, _, _, _, _, _, _, _, _, _, _, _, _, _, _]
  refine Dn 5 [(87, Ai x13)] hx H fun fr t H => ?_
  refine BV 1 [(4, .ptr (some (h3.size, 0))), (5, Ai x13)] H fun fr H => CI 4 id (AP 4 [(2, .ptr (some (h3.size, 0))), (3, Ai x13)] H fun fr H => AY ?_)
  cases hm
 replace A := A.C4 A1
 refine Ap 2 [] 85 hr H fun fr t H => ?_
 obtain ⟨h17, hx, A⟩ := A.s4 17 [.ptr none] [_, _, _, _, _, _, _, _, _, _, _, _, _, _, _, _, _, _]
 refine Dn 5 [(87, Ai x13)] hx H fun fr t H => ?_
 refine BV 1 [(4, .ptr (some (h3.size, 0))), (5, Ai x13)] H fun fr H => CI 4 id (AP 4 [(2, .ptr (some (h3.size, 0))), (3, Ai x13)] H fun fr H => AY ?_)
 cases hm
def Eg (p1 : Int) (s : (List UInt8) × Int) : Option (((List UInt8) × Int) ⊕ (((List UInt8)))) :=
 match s with
 | (x1, x2) => Ac (decide (x2 ≤ p1)) ((TG (IntKind.u8.wrap x2)).bind fun x4 => Ca (decide (x1.length + ([x4] : List UInt8).length ≤ 9223372036854775807)) <| some (.inl (x1 ++ ([x4] : List UInt8), IntKind.i64.wrap (x2 + 1)))) (some (.inr x1))
def BJ (p0 : Int) (p1 : Int) : Option ((List UInt8)) :=
 (loop (Eg p1) (([] : List UInt8), p0)).bind fun x3 => some x3
theorem B5 {p0 p1 q0} (hm : BJ p0 p1 = some q0) (A : HH g h [] F) (hc : Ba (cfg.still 39) av = [Ai p0, Ai p1] := by kernel_rfl) : ∃ v h', Bi cfg g h 39 av v h' ∧ v = .str q0 ∧ HH g h' [] F := by
 refine EN 20 [.tmp 4] hc ?_
 clear hc
 unfold BJ at hm
 refine bg 20 [(0, Ai p0), (1, Ai p1)] fun fr H => ?_
 refine AF 1 (B1 1 [] 1 H fun fr H => AP 1 [(5, .str ([] : List UInt8))] H fun fr H => AR (AF 2 (AP 2 [(6, Ai p0)] H fun fr H => Af (id := 0) (by kernel_rfl) ?_)))
 obtain ⟨o1, ho, hm⟩ := bind_some hm
 refine BU (Q' := fun e fr' h' => (∃ x3, e = .exit 0 ∧ x3 = o1 ∧ Has fr' 20 [(5, .str x3)] ∧ HH g h' [] F) ∨ False) ?_ ?_
 ·refine CH (by kernel_rfl) (fun (s : (List UInt8) × Int) fr' h' => ∃ x1 x2, (x1, x2) = s ∧ Has fr' 20 [(1, Ai p1), (5, .str x1), (6, Ai x2)] ∧ HH g h' [] F) ho ⟨_, _, rfl, H.ls, A⟩ ?_
  clear ho hm H A
  intro s q fr h1 hI hm
  obtain ⟨x1, x2, rfl, H, A⟩ := hI
  unfold Eg at hm
  refine AR (AF 3 (AP 3 [(10, .bool (decide (x2 ≤ p1)))] H fun fr H => Ae 10 H hm (fun hb hm H => ?_) fun hb hm H => ?_))
  ·refine B0 id (AR (Af (id := 1) (by kernel_rfl) ?_))
   refine DQ 7 (AG 3 [(13, .str x1), (15, Ab (IntKind.u8.wrap x2))] H fun fr H => ?_)
   obtain ⟨x4, hx, hm⟩ := bind_some hm
   have hx := Li hx
   rw [hx] at H
   obtain ⟨h2, e1, A⟩ := A.pL 5 [Ab (x4.toNat : Int)]
   refine BP 16 (AH (some h1.size) (([x4] : List UInt8).length)) e1 H fun fr t H => ?_
   refine As 17 (.str ([x4] : List UInt8)) h2 H (fun fr => .of (PI (xs := ([x4] : List UInt8)) A 0 rfl (by kernel_rfl))) fun fr t H => ?_
   obtain ⟨hb, hm⟩ := BE hm
   refine As 18 (.str (x1 ++ ([x4] : List UInt8))) h2 H (fun fr => .of (J9 (by kernel_rfl) hb)) fun fr t H => ?_
   refine BV 1 [(1, Ai p1), (5, .str (x1 ++ ([x4] : List UInt8))), (6, Ai x2)] H fun fr H => F4 3 id (BV 3 [(1, Ai p1), (5, .str (x1 ++ ([x4] : List UInt8))), (6, Ai (IntKind.i64.wrap (x2 + 1)))] H fun fr H => at_nil ?_)
   replace A := A.d0
   exact nx hm ⟨_, _, rfl, H.ls, A⟩
  refine Bz (i := 0) (by kernel_rfl) ?_
  exact nr hm fun e => .inl ⟨_, rfl, e, H.ls, A⟩
 clear ho
 clear A
 intro e fr h3 hQ
 rcases hQ with ⟨x3, rfl, rfl, H, A⟩ | hF
 ·show AW _ _ _ _ _ _ _
  refine AF 2 (AP 2 [(4, .str x3)] H fun fr H => AY ?_)
  obtain rfl := Ag hm
  exact ⟨.inl rfl, _, rH H, rfl, A⟩
 exact hF.elim
end
end Go.Av.L
