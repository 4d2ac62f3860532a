/-
 A part.
-/
import Derived.Test.YtdjbadhilkmiiaaGreatDoorKCfg
import Derived.Test.YtdjbadhilkmiiaaGreatDoorK0
import Derived.Test.YtdjbadhilkmiiaaGreatDoorK1
namespace Go.Av.L
open Go.Av Go.Lib
set_option maxRecDepth 10000
set_option maxHeartbeats 4000000
set_option linter.unusedVariables false
set_option linter.unusedSimpArgs false
variable {g : Gd} {h : AJ} {F : List Ck} {av : List AB}
noncomputable section
def Dh (p0 : CF) (p1 : List UInt8) (p2 : Int) : Option (Cw × CF × (List AD) × (List ((List UInt8) × Bool))) :=
 (Ac (p1 == ([] : List UInt8)) (some true) ((KW p1 (0 : Int)).bind fun x2 => some (x2 == 35)) : Option (Bool)).bind fun x1 => Ac x1 ((Fa).bind fun x3 => some (x3, p0, p0.c_.AS, p0.Bx)) (Ca (decide (p1.length ≤ 4294967280)) <| Ac (((Lib.cut p1 ([32] : List UInt8)).1) == ([97, 110, 99, 104, 111, 114, 101, 100] : List UInt8)) none (Ac (((Lib.cut p1 ([32] : List UInt8)).1) == ([117, 110, 97, 110, 99, 104, 111, 114, 101, 100] : List UInt8)) none (Ac (((Lib.cut p1 ([32] : List UInt8)).1) == ([102, 111, 108, 100] : List UInt8)) none (Ac (((Lib.cut p1 ([32] : List UInt8)).1) == ([110, 111, 102, 111, 108, 100] : List UInt8)) none (Ac (((Lib.cut p1 ([32] : List UInt8)).1) == ([115, 108, 97, 115, 104] : List UInt8)) none (Ac (((Lib.cut p1 ([32] : List UInt8)).1) == ([110, 111, 115, 108, 97, 115, 104] : List UInt8)) none (Ac (((Lib.cut p1 ([32] : List UInt8)).1) == ([105, 110, 99, 108, 117, 100, 101] : List UInt8)) none (Ac (((Lib.cut p1 ([32] : List UInt8)).1) == ([101, 120, 99, 108, 117, 100, 101] : List UInt8)) (Ac ((!(((Lib.cut p1 ([32] : List UInt8)).2.2) == true)) || false) (some ((⟨(11 : Int), p2⟩ : Cw), p0, p0.c_.AS, p0.Bx)) ((Ei (⟨p0.c_, p0.Aw, p0.GB, p0.at_, (IA p0.Bx ((Lib.cut p1 ([32] : List UInt8)).1) true)⟩ : CF) ((Lib.cut p1 ([32] : List UInt8)).2.1) p2 (IntKind.i64.wrap ((IntKind.i64.wrap (p2 + (((Lib.cut p1 ([32] : List UInt8)).1).length : Int))) + 1))).bind fun (x4, x5) => some (x4, (⟨(⟨p0.c_.AQ, x5, p0.c_.Bt, p0.c_.FT, p0.c_.Ay, p0.c_.BN, p0.c_.Be, p0.c_.An, p0.c_.Eu, p0.c_.Bf, p0.c_.Name, p0.c_.Head, p0.c_.BF⟩ : BI), p0.Aw, p0.GB, p0.at_, (IA p0.Bx ((Lib.cut p1 ([32] : List UInt8)).1) true)⟩ : CF), x5, (IA p0.Bx ((Lib.cut p1 ([32] : List UInt8)).1) true)))) (Ac (((Lib.cut p1 ([32] : List UInt8)).1) == ([101, 120, 99, 108, 117, 100, 101, 45, 108, 105, 110, 101, 115] : List UInt8)) none (Ac (((Lib.cut p1 ([32] : List UInt8)).1) == ([118, 99, 115] : List UInt8)) none (Ac (((Lib.cut p1 ([32] : List UInt8)).1) == ([98, 97, 99, 107, 117, 112, 115] : List UInt8)) none (Ac (((Lib.cut p1 ([32] : List UInt8)).1) == ([99, 97, 99, 104, 101, 115] : List UInt8)) none (Ac (((Lib.cut p1 ([32] : List UInt8)).1) == ([110, 101, 119, 101, 114] : List UInt8)) none (Ac (((Lib.cut p1 ([32] : List UInt8)).1) == ([110, 116, 104] : List UInt8)) none (Ac (((Lib.cut p1 ([32] : List UInt8)).1) == ([115, 116, 114, 105, 112] : List UInt8)) (Ac ((!(((Lib.cut p1 ([32] : List UInt8)).2.2) == true)) || ((FC p0.Bx ((Lib.cut p1 ([32] : List UInt8)).1)).getD false)) (some ((⟨(11 : Int), p2⟩ : Cw), p0, p0.c_.AS, p0.Bx)) ((DH (⟨p0.c_, p0.Aw, p0.GB, p0.at_, (IA p0.Bx ((Lib.cut p1 ([32] : List UInt8)).1) true)⟩ : CF) ((Lib.cut p1 ([32] : List UInt8)).2.1) p2 (IntKind.i64.wrap ((IntKind.i64.wrap (p2 + (((Lib.cut p1 ([32] : List UInt8)).1).length : Int))) + 1))).bind fun (x6, x7) => some (x6, (⟨(⟨p0.c_.AQ, p0.c_.AS, p0.c_.Bt, x7.c_.FT, x7.c_.Ay, x7.c_.BN, x7.c_.Be, x7.c_.An, x7.c_.Eu, x7.c_.Bf, x7.c_.Name, x7.c_.Head, x7.c_.BF⟩ : BI), x7.Aw, x7.GB, x7.at_, (IA p0.Bx ((Lib.cut p1 ([32] : List UInt8)).1) true)⟩ : CF), p0.c_.AS, (IA p0.Bx ((Lib.cut p1 ([32] : List UInt8)).1) true)))) (Ac (((Lib.cut p1 ([32] : List UInt8)).1) == ([116, 114, 97, 110, 115, 102, 111, 114, 109] : List UInt8)) none (Ac (((Lib.cut p1 ([32] : List UInt8)).1) == ([99, 97, 112, 45, 110, 97, 109, 101] : List UInt8)) none (Ac (((Lib.cut p1 ([32] : List UInt8)).1) == ([99, 97, 112, 45, 104, 101, 97, 100] : List UInt8)) none (Ac (((Lib.cut p1 ([32] : List UInt8)).1) == ([99, 97, 112, 45, 115, 116, 97, 116, 101, 115] : List UInt8)) none (some ((⟨(11 : Int), p2⟩ : Cw), p0, p0.c_.AS, p0.Bx)))))))))))))))))))))
theorem G6 {p0 p1 p2 bp0 rp0_0 rp0_1 rp0_2 bp0_20 bp3 q0 u0 u2 u4} (hm : Dh p0 p1 p2 = some (q0, u0, u2, u4)) (A : HH g h [.obj bp0 (.cells none 2 [AH rp0_0 p0.c_.AQ.length, AH rp0_1 p0.c_.AS.length, AH rp0_2 p0.c_.Bt.length, .bool p0.c_.FT, .bool p0.c_.Ay, Ai p0.c_.BN, .bool p0.c_.Be, Ai p0.c_.An.CX, Ai p0.c_.An.BS, Ai p0.c_.Eu, Ai p0.c_.Bf, Ai p0.c_.Name, Ai p0.c_.Head, Ai p0.c_.BF, .str p0.Aw.Text, .bool p0.Aw.Bu, .bool p0.Aw.Fold, .bool p0.Aw.BG, .str p0.GB, Ai p0.at_, .map (some bp0_20)]), .AK rp0_0 31 (AK AA p0.c_.AQ), .AK rp0_1 31 (AK AA p0.c_.AS), .AK rp0_2 92 (AK AL p0.c_.Bt), .obj bp0_20 (.map 2 (CL (fun k : List UInt8 => .str k) (fun v : Bool => .bool v) p0.Bx)), .obj bp3 (.map 2 LA.Nd)] F) (hc : Ba (cfg.still 20) av = [.ptr (some (bp0, 0)), .str p1, Ai p2, .map (some bp3)] := by kernel_rfl) : ∃ v h', Bi cfg g h 20 av v h' ∧ ∃ (r'2 : Option Nat), v = .agg [Ai q0.e_, Ai q0.at_] ∧ HH g h' [.obj bp0 (.cells none 2 [AH rp0_0 p0.c_.AQ.length, AH r'2 u2.length, AH rp0_2 p0.c_.Bt.length, .bool u0.c_.FT, .bool u0.c_.Ay, Ai u0.c_.BN, .bool u0.c_.Be, Ai u0.c_.An.CX, Ai u0.c_.An.BS, Ai u0.c_.Eu, Ai u0.c_.Bf, Ai u0.c_.Name, Ai u0.c_.Head, Ai u0.c_.BF, .str u0.Aw.Text, .bool u0.Aw.Bu, .bool u0.Aw.Fold, .bool u0.Aw.BG, .str u0.GB, Ai u0.at_, .map (some bp0_20)]), .AK rp0_0 31 (AK AA p0.c_.AQ), .AK r'2 31 (AK AA u2), .AK rp0_2 92 (AK AL p0.c_.Bt), .obj bp0_20 (.map 2 (CL (fun k : List UInt8 => .str k) (fun v : Bool => .bool v) u4)), .obj bp3 (.map 2 LA.Nd)] F := by
 refine EN 72 [.cell 8 77] hc ?_
 clear hc
 unfold Dh at hm
 refine bg 72 [(0, .ptr (some (bp0, 0))), (1, .str p1), (2, Ai p2), (3, .map (some bp3))] fun fr H => ?_
 refine AF 1 ?_
 obtain ⟨h1, e1, A⟩ := A.pu (.cells none 2 [Ai 0, Ai 0])
 refine BP 8 (.ptr (some (h.size, 0))) e1 H fun fr t H => ?_
 refine BD id (AR (AF 7 (AG 3 [(16, .bool (p1 == ([] : List UInt8)))] H fun fr H => ?_)))
 obtain ⟨x1, ho, hm⟩ := bind_some hm
 refine A9 4 (fun fr' h' => Has fr' 72 [(0, .ptr (some (bp0, 0))), (1, .str p1), (2, Ai p2), (3, .map (some bp3)), (8, .ptr (some (h.size, 0))), (20, .bool x1)] ∧ HH g h' [.obj h.size (.cells none 2 [Ai 0, Ai 0]), .obj bp0 (.cells none 2 [AH rp0_0 p0.c_.AQ.length, AH rp0_1 p0.c_.AS.length, AH rp0_2 p0.c_.Bt.length, .bool p0.c_.FT, .bool p0.c_.Ay, Ai p0.c_.BN, .bool p0.c_.Be, Ai p0.c_.An.CX, Ai p0.c_.An.BS, Ai p0.c_.Eu, Ai p0.c_.Bf, Ai p0.c_.Name, Ai p0.c_.Head, Ai p0.c_.BF, .str p0.Aw.Text, .bool p0.Aw.Bu, .bool p0.Aw.Fold, .bool p0.Aw.BG, .str p0.GB, Ai p0.at_, .map (some bp0_20)]), .AK rp0_0 31 (AK AA p0.c_.AQ), .AK rp0_1 31 (AK AA p0.c_.AS), .AK rp0_2 92 (AK AL p0.c_.Bt), .obj bp0_20 (.map 2 (CL (fun k : List UInt8 => .str k) (fun v : Bool => .bool v) p0.Bx)), .obj bp3 (.map 2 LA.Nd)] F) ?_ ?_
 ·rcases AZ ho with ⟨hb, hm⟩ | ⟨hb, hm⟩
  ·replace H := H.kn 16 hb
   refine AG 4 [(20, .bool true)] H fun fr H => ?_
   obtain rfl := Ag hm
   exact at_nil ⟨H.ls, A⟩
  replace H := H.kn 16 hb
  obtain ⟨x2, hx, hm⟩ := bind_some hm
  refine BA 1 [] 18 (Ab x2) h1 H (fun fr => .of (E5 (by kernel_rfl) hx)) fun fr t H => ?_
  refine AG 2 [(20, .bool (x2 == 35))] H fun fr H => ?_
  obtain rfl := Ag hm
  exact at_nil ⟨H.ls, A⟩
 clear A
 intro t fr h2 hK
 obtain ⟨H, A⟩ := hK
 refine BD id (Ae 20 H hm (fun hb hm H => ?_) fun hb hm H => ?_)
 ·refine AF 2 ?_
  obtain ⟨x3, hx, hm⟩ := bind_some hm
  obtain ⟨v1, h3, hr, rfl, A1⟩ := Gu (av := []) hx (A.cut 0)
  replace A := A.C4 A1
  refine A8 21 hr H fun fr t H => ?_
  obtain ⟨h4, hx, A⟩ := A.s0 0 [Ai x3.e_, Ai x3.at_] [_, _]
  refine Cy hx H fun fr t H => ?_
  refine BD id (AY ?_)
  obtain ⟨rfl, rfl, rfl, rfl⟩ := M3 hm
  refine ⟨.inl rfl, .agg [Ai x3.e_, Ai x3.at_], CS (.cell (rT H) (BL (by kernel_rfl) (by kernel_rfl) (A.la 0 0 2)) .nil), ?_⟩
  replace A := A.k6 1 2 3 4 5 6
  exact ⟨rp0_1, rfl, A⟩
 refine CN 9 id ?_
 obtain ⟨hb, hm⟩ := BE hm
 refine BA 1 [] 24 (.tuple [.str ((Lib.cut p1 ([32] : List UInt8)).1), .str ((Lib.cut p1 ([32] : List UInt8)).2.1), .bool ((Lib.cut p1 ([32] : List UInt8)).2.2)]) h2 H (fun fr => Steps.call (by kernel_rfl) (QE (C := cfg) (f := 19) (a := 0) (by kernel_rfl) (l := exts) rfl (by kernel_rfl) hb)) fun fr t H => ?_
 refine B1 7 [(9, .str ((Lib.cut p1 ([32] : List UInt8)).1)), (10, .str ((Lib.cut p1 ([32] : List UInt8)).2.1)), (11, .bool ((Lib.cut p1 ([32] : List UInt8)).2.2))] 9 H fun fr H => ?_
 rcases AZ hm with ⟨hb, hm⟩ | ⟨hk1, hm⟩
 ·cases hm
 rcases AZ hm with ⟨hb, hm⟩ | ⟨hk2, hm⟩
 ·cases hm
 rcases AZ hm with ⟨hb, hm⟩ | ⟨hk3, hm⟩
 ·cases hm
 rcases AZ hm with ⟨hb, hm⟩ | ⟨hk4, hm⟩
 ·cases hm
 rcases AZ hm with ⟨hb, hm⟩ | ⟨hk5, hm⟩
 ·cases hm
 rcases AZ hm with ⟨hb, hm⟩ | ⟨hk6, hm⟩
 ·cases hm
 rcases AZ hm with ⟨hb, hm⟩ | ⟨hk7, hm⟩
 ·cases hm
 rcases AZ hm with ⟨hb, hm⟩ | ⟨hk8, hm⟩
 ·refine BA 2 [] 31 (.tuple [.agg [.bool true, .bool false, .func (.func 51) [] []], .bool true]) h2 H (fun fr => .of (RE (by kernel_rfl) (HH.UJ (P := cfg.P) A 6 rfl (t := 72) (kt := 9) (et := 114) (by kernel_rfl) (by kernel_rfl) (s := ((Lib.cut p1 ([32] : List UInt8)).1)) (.EW hk1 (.EW hk2 (.EW hk3 (.EW hk4 (.EW hk5 (.EW hk6 (.EW hk7 (.hit hb))))))))))) fun fr t H => ?_
  obtain ⟨h5, e2, A⟩ := A.pu (.cells none 2 [.bool false, .bool false, .nilFunc])
  refine Gf 3 [(32, .agg [.bool true, .bool false, .func (.func 51) [] []]), (33, .bool true)] 12 (.ptr (some (h2.size, 0))) e2 H fun fr t H => ?_
  obtain ⟨h6, hx, A⟩ := A.s0 0 [.bool true, .bool false, .func (.func 51) [] []] [_, _, _]
  refine Cy hx H fun fr t H => ?_
  refine AP 1 [(13, .bool true)] H fun fr H => AR (AF 20 (Ah 5 [(36, .bool false), (37, .bool ((Lib.cut p1 ([32] : List UInt8)).2.2))] 39 0 0 A H fun fr t H => ?_))
  refine AG 3 [(42, .bool (!(((Lib.cut p1 ([32] : List UInt8)).2.2) == true)))] H fun fr H => A9 11 (fun fr' h' => h6 = h' ∧ Has fr' 72 [(0, .ptr (some (bp0, 0))), (2, Ai p2), (8, .ptr (some (h.size, 0))), (9, .str ((Lib.cut p1 ([32] : List UInt8)).1)), (10, .str ((Lib.cut p1 ([32] : List UInt8)).2.1)), (12, .ptr (some (h2.size, 0))), (53, .bool ((!(((Lib.cut p1 ([32] : List UInt8)).2.2) == true)) || false))]) ?_ ?_
  ·cases hb : (!(((Lib.cut p1 ([32] : List UInt8)).2.2) == true) : Bool) with
   | true =>
    replace H := H.kn 42 hb
    exact AG 11 [(53, .bool true)] H fun fr H => BK H hb
   | false =>
    replace H := H.kn 42 hb
    refine Ah 1 [] 44 0 1 A H fun fr t H => ?_
    exact AG 9 [(53, .bool false)] H fun fr H => BK H hb
  intro t fr h' hK
  obtain ⟨e, H⟩ := hK
  subst e
  refine BD id (Ae 53 H hm (fun hb hm H => ?_) fun hb hm H => ?_)
  ·refine AF 3 ?_
   obtain ⟨h7, hx, A⟩ := A.s1 0 [Ai 11, Ai p2] [_, _]
   refine Dm 2 [] hx H fun fr t H => ?_
   refine BD id (AY ?_)
   obtain ⟨rfl, rfl, rfl, rfl⟩ := M3 hm
   refine ⟨.inl rfl, .agg [Ai 11, Ai p2], CS (.cell (rT H) (BL (by kernel_rfl) (by kernel_rfl) (A.la 1 0 2)) .nil), ?_⟩
   replace A := A.k6 2 3 4 5 6 7
   exact ⟨rp0_1, rfl, A⟩
  refine CN 6 id (Ah 3 [] 59 2 20 A H fun fr t H => ?_)
  refine AG 1 [(60, .str ((Lib.cut p1 ([32] : List UInt8)).1))] H fun fr H => ?_
  obtain ⟨h8, hx, A1⟩ := HH.U6 (kt := 9) (et := 4) (ek := fun k : List UInt8 => .str k) (ev := fun v : Bool => .bool v) (Rv (by kernel_rfl)) A 6 rfl (t := 69) (by kernel_rfl) ((Lib.cut p1 ([32] : List UInt8)).1) true
  replace A : HH g h8 [_, _, _, _, _, _, .obj bp0_20 (.map 2 (CL (fun k : List UInt8 => .str k) (fun v : Bool => .bool v) (IA p0.Bx ((Lib.cut p1 ([32] : List UInt8)).1) true))), _] F := A1
  refine Lb (.tuple []) h8 H (fun fr => .of (S8 (by kernel_rfl) hx)) fun fr t H => ?_
  refine CI 12 id (Ah 1 [] 62 0 2 A H fun fr t H => ?_)
  replace A := A.k8 2 3 4 5 6 0 1 7
  obtain ⟨⟨x4, x5⟩, hx, hm⟩ := bind_some hm
  obtain ⟨v1, h9, hr, r1, rfl, A1⟩ := Iu (av := [.ptr (some (bp0, 0)), .str ((Lib.cut p1 ([32] : List UInt8)).2.1), Ai p2, Ai (IntKind.i64.wrap ((IntKind.i64.wrap (p2 + (((Lib.cut p1 ([32] : List UInt8)).1).length : Int))) + 1))]) hx (A.cut 5)
  replace A : HH g h9 [.obj bp0 (.cells none 2 [_, AH r1 x5.length, _, _, _, _, _, _, _, _, _, _, _, _, _, _, _, _, _, _, _]), .AK rp0_0 31 (AK AA p0.c_.AQ), .AK r1 31 (AK AA x5), .AK rp0_2 92 (AK AL p0.c_.Bt), .obj bp0_20 (.map 2 (CL (fun k : List UInt8 => .str k) (fun v : Bool => .bool v) (IA p0.Bx ((Lib.cut p1 ([32] : List UInt8)).1) true))), _, _, _] F := A.Cp (n := 5) A1
  refine Ap 8 [] 71 hr H fun fr t H => ?_
  obtain ⟨h10, hx, A⟩ := A.s6 0 [Ai x4.e_, Ai x4.at_] [_, _]
  refine Cy hx H fun fr t H => ?_
  refine BD id (AY ?_)
  obtain ⟨rfl, rfl, rfl, rfl⟩ := M3 hm
  refine ⟨.inl rfl, .agg [Ai x4.e_, Ai x4.at_], CS (.cell (rT H) (BL (by kernel_rfl) (by kernel_rfl) (A.la 6 0 2)) .nil), ?_⟩
  replace A := A.k6 0 1 2 3 4 7
  exact ⟨r1, rfl, A⟩
 rcases AZ hm with ⟨hb, hm⟩ | ⟨hk9, hm⟩
 ·cases hm
 rcases AZ hm with ⟨hb, hm⟩ | ⟨hk10, hm⟩
 ·cases hm
 rcases AZ hm with ⟨hb, hm⟩ | ⟨hk11, hm⟩
 ·cases hm
 rcases AZ hm with ⟨hb, hm⟩ | ⟨hk12, hm⟩
 ·cases hm
 rcases AZ hm with ⟨hb, hm⟩ | ⟨hk13, hm⟩
 ·cases hm
 rcases AZ hm with ⟨hb, hm⟩ | ⟨hk14, hm⟩
 ·cases hm
 rcases AZ hm with ⟨hb, hm⟩ | ⟨hk15, hm⟩
 ·refine BA 2 [] 31 (.tuple [.agg [.bool true, .bool true, .func (.func 107) [] [.BR [Ai (0 : Int)], .BR [Ai (9999 : Int)], .BR [.func (.func 64) [] []]]], .bool true]) h2 H (fun fr => .of (RE (by kernel_rfl) (HH.UJ (P := cfg.P) A 6 rfl (t := 72) (kt := 9) (et := 114) (by kernel_rfl) (by kernel_rfl) (s := ((Lib.cut p1 ([32] : List UInt8)).1)) (.EW hk1 (.EW hk2 (.EW hk3 (.EW hk4 (.EW hk5 (.EW hk6 (.EW hk7 (.EW hk8 (.EW hk9 (.EW hk10 (.EW hk11 (.EW hk12 (.EW hk13 (.EW hk14 (.hit hb)))))))))))))))))) fun fr t H => ?_
  obtain ⟨h11, e3, A⟩ := A.pu (.cells none 2 [.bool false, .bool false, .nilFunc])
  refine Gf 3 [(32, .agg [.bool true, .bool true, .func (.func 107) [] [.BR [Ai (0 : Int)], .BR [Ai (9999 : Int)], .BR [.func (.func 64) [] []]]]), (33, .bool true)] 12 (.ptr (some (h2.size, 0))) e3 H fun fr t H => ?_
  obtain ⟨h12, hx, A⟩ := A.s0 0 [.bool true, .bool true, .func (.func 107) [] [.BR [Ai 0], .BR [Ai 9999], .BR [.func (.func 64) [] []]]] [_, _, _]
  refine Cy hx H fun fr t H => ?_
  refine AP 1 [(13, .bool true)] H fun fr H => AR (AF 20 (Ah 5 [(36, .bool false), (37, .bool ((Lib.cut p1 ([32] : List UInt8)).2.2))] 39 0 0 A H fun fr t H => ?_))
  refine AG 3 [(42, .bool (!(((Lib.cut p1 ([32] : List UInt8)).2.2) == true)))] H fun fr H => A9 11 (fun fr' h' => h12 = h' ∧ Has fr' 72 [(0, .ptr (some (bp0, 0))), (2, Ai p2), (8, .ptr (some (h.size, 0))), (9, .str ((Lib.cut p1 ([32] : List UInt8)).1)), (10, .str ((Lib.cut p1 ([32] : List UInt8)).2.1)), (12, .ptr (some (h2.size, 0))), (53, .bool ((!(((Lib.cut p1 ([32] : List UInt8)).2.2) == true)) || ((FC p0.Bx ((Lib.cut p1 ([32] : List UInt8)).1)).getD false)))]) ?_ ?_
  ·cases hb : (!(((Lib.cut p1 ([32] : List UInt8)).2.2) == true) : Bool) with
   | true =>
    replace H := H.kn 42 hb
    exact AG 11 [(53, .bool true)] H fun fr H => BK H hb
   | false =>
    replace H := H.kn 42 hb
    refine Ah 1 [] 44 0 1 A H fun fr t H => ?_
    refine Ah 4 [(45, .bool true)] 49 2 20 A H fun fr t H => ?_
    refine BA 1 [] 51 (.bool ((FC p0.Bx ((Lib.cut p1 ([32] : List UInt8)).1)).getD false)) h12 H (fun fr => .of (VX (by kernel_rfl) (HH.UH (kt := 9) (et := 4) (ek := fun k : List UInt8 => .str k) (ev := fun v : Bool => .bool v) (Rv (by kernel_rfl)) A 6 rfl (t := 69) (by kernel_rfl) (z := false) (by kernel_rfl) ((Lib.cut p1 ([32] : List UInt8)).1)))) fun fr t H => ?_
    exact AG 2 [(53, .bool ((FC p0.Bx ((Lib.cut p1 ([32] : List UInt8)).1)).getD false))] H fun fr H => BK H hb
  intro t fr h' hK
  obtain ⟨e, H⟩ := hK
  subst e
  refine BD id (Ae 53 H hm (fun hb hm H => ?_) fun hb hm H => ?_)
  ·refine AF 3 ?_
   obtain ⟨h13, hx, A⟩ := A.s1 0 [Ai 11, Ai p2] [_, _]
   refine Dm 2 [] hx H fun fr t H => ?_
   refine BD id (AY ?_)
   obtain ⟨rfl, rfl, rfl, rfl⟩ := M3 hm
   refine ⟨.inl rfl, .agg [Ai 11, Ai p2], CS (.cell (rT H) (BL (by kernel_rfl) (by kernel_rfl) (A.la 1 0 2)) .nil), ?_⟩
   replace A := A.k6 2 3 4 5 6 7
   exact ⟨rp0_1, rfl, A⟩
  refine CN 6 id (Ah 3 [] 59 2 20 A H fun fr t H => ?_)
  refine AG 1 [(60, .str ((Lib.cut p1 ([32] : List UInt8)).1))] H fun fr H => ?_
  obtain ⟨h14, hx, A1⟩ := HH.U6 (kt := 9) (et := 4) (ek := fun k : List UInt8 => .str k) (ev := fun v : Bool => .bool v) (Rv (by kernel_rfl)) A 6 rfl (t := 69) (by kernel_rfl) ((Lib.cut p1 ([32] : List UInt8)).1) true
  replace A : HH g h14 [_, _, _, _, _, _, .obj bp0_20 (.map 2 (CL (fun k : List UInt8 => .str k) (fun v : Bool => .bool v) (IA p0.Bx ((Lib.cut p1 ([32] : List UInt8)).1) true))), _] F := A1
  refine Lb (.tuple []) h14 H (fun fr => .of (S8 (by kernel_rfl) hx)) fun fr t H => ?_
  refine CI 12 id (Ah 1 [] 62 0 2 A H fun fr t H => ?_)
  replace A := A.k8 2 3 4 5 6 0 1 7
  obtain ⟨⟨x6, x7⟩, hx, hm⟩ := bind_some hm
  obtain ⟨v1, h15, hr, rfl, A1⟩ := GL (av := [.ptr (some (bp0, 0)), .str ((Lib.cut p1 ([32] : List UInt8)).2.1), Ai p2, Ai (IntKind.i64.wrap ((IntKind.i64.wrap (p2 + (((Lib.cut p1 ([32] : List UInt8)).1).length : Int))) + 1)), .BR [Ai 0], .BR [Ai 9999], .BR [.func (.func 64) [] []]]) hx (A.cut 5)
  replace A : HH g h15 [.obj bp0 (.cells none 2 [_, _, _, .bool x7.c_.FT, .bool x7.c_.Ay, Ai x7.c_.BN, .bool x7.c_.Be, Ai x7.c_.An.CX, Ai x7.c_.An.BS, Ai x7.c_.Eu, Ai x7.c_.Bf, Ai x7.c_.Name, Ai x7.c_.Head, Ai x7.c_.BF, .str x7.Aw.Text, .bool x7.Aw.Bu, .bool x7.Aw.Fold, .bool x7.Aw.BG, .str x7.GB, Ai x7.at_, _]), .AK rp0_0 31 (AK AA p0.c_.AQ), .AK rp0_1 31 (AK AA p0.c_.AS), .AK rp0_2 92 (AK AL p0.c_.Bt), .obj bp0_20 (.map 2 (CL (fun k : List UInt8 => .str k) (fun v : Bool => .bool v) (IA p0.Bx ((Lib.cut p1 ([32] : List UInt8)).1) true))), _, _, _] F := A.Cp (n := 5) A1
  refine Ap 8 [] 71 hr H fun fr t H => ?_
  obtain ⟨h16, hx, A⟩ := A.s6 0 [Ai x6.e_, Ai x6.at_] [_, _]
  refine Cy hx H fun fr t H => ?_
  refine BD id (AY ?_)
  obtain ⟨rfl, rfl, rfl, rfl⟩ := M3 hm
  refine ⟨.inl rfl, .agg [Ai x6.e_, Ai x6.at_], CS (.cell (rT H) (BL (by kernel_rfl) (by kernel_rfl) (A.la 6 0 2)) .nil), ?_⟩
  replace A := A.k6 0 1 2 3 4 7
  exact ⟨rp0_1, rfl, A⟩
 rcases AZ hm with ⟨hb, hm⟩ | ⟨hk16, hm⟩
 ·cases hm
 rcases AZ hm with ⟨hb, hm⟩ | ⟨hk17, hm⟩
 ·cases hm
 rcases AZ hm with ⟨hb, hm⟩ | ⟨hk18, hm⟩
 ·cases hm
 rcases AZ hm with ⟨hb, hm⟩ | ⟨hk19, hm⟩
 ·cases hm
 refine BA 2 [] 31 (.tuple [.agg [.bool false, .bool false, .nilFunc], .bool false]) h2 H (fun fr => .of (RE (by kernel_rfl) (HH.VE (P := cfg.P) A 6 rfl (t := 72) (kt := 9) (et := 114) (by kernel_rfl) (by kernel_rfl) (z := .agg [.bool false, .bool false, .nilFunc]) (by kernel_rfl) (s := ((Lib.cut p1 ([32] : List UInt8)).1)) (.EW hk1 (.EW hk2 (.EW hk3 (.EW hk4 (.EW hk5 (.EW hk6 (.EW hk7 (.EW hk8 (.EW hk9 (.EW hk10 (.EW hk11 (.EW hk12 (.EW hk13 (.EW hk14 (.EW hk15 (.EW hk16 (.EW hk17 (.EW hk18 (.EW hk19 (.nil))))))))))))))))))))))) fun fr t H => ?_
 obtain ⟨h17, e4, A⟩ := A.pu (.cells none 2 [.bool false, .bool false, .nilFunc])
 refine Gf 3 [(32, .agg [.bool false, .bool false, .nilFunc]), (33, .bool false)] 12 (.ptr (some (h2.size, 0))) e4 H fun fr t H => ?_
 obtain ⟨h18, hx, A⟩ := A.s0 0 [.bool false, .bool false, .nilFunc] [_, _, _]
 refine Cy hx H fun fr t H => ?_
 refine AP 1 [(13, .bool false)] H fun fr H => AR (AF 20 (AP 20 [(53, .bool true)] H fun fr H => IF (x := .tmp 53) (by kernel_rfl) H (fun fr => by kernel_rfl) ?_))
 refine AF 3 ?_
 obtain ⟨h19, hx, A⟩ := A.s1 0 [Ai 11, Ai p2] [_, _]
 refine Dm 2 [] hx H fun fr t H => ?_
 refine BD id (AY ?_)
 obtain ⟨rfl, rfl, rfl, rfl⟩ := M3 hm
 refine ⟨.inl rfl, .agg [Ai 11, Ai p2], CS (.cell (rT H) (BL (by kernel_rfl) (by kernel_rfl) (A.la 1 0 2)) .nil), ?_⟩
 replace A := A.k6 2 3 4 5 6 7
 exact ⟨rp0_1, rfl, A⟩
def I7 (s : (List AD) × Bool × Bool × Int × Bool × Int × Int × Int × Int × Int × Int × Int × (List UInt8) × Bool × Bool × Bool × (List UInt8) × Int × (List ((List UInt8) × Bool))) : Option (((List AD) × Bool × Bool × Int × Bool × Int × Int × Int × Int × Int × Int × Int × (List UInt8) × Bool × Bool × Bool × (List UInt8) × Int × (List ((List UInt8) × Bool))) ⊕ (((List AD) × Bool × Bool × Int × Bool × Int × Int × Int × Int × Int × Int × Int × (List UInt8) × Bool × Bool × Bool × (List UInt8) × Int × (List ((List UInt8) × Bool))) ⊕ ((List AD) × Bool × Bool × Int × Bool × Int × Int × Int × Int × Int × Int × Int × (List UInt8) × Bool × Bool × Bool × (List UInt8) × Int × (List ((List UInt8) × Bool)) × Int × Int))) :=
 match s with
 | (x2, x3, x4, x5, x6, x7, x8, x9, x10, x11, x12, x13, x14, x15, x16, x17, x18, x19, x20) => Ac (!(x18 == ([] : List UInt8))) (Ca (decide (x18.length ≤ 4294967280)) <| (Dh (⟨(⟨([] : List AD), x2, ([] : List Ao), x3, x4, x5, x6, (⟨x7, x8⟩ : Bb), x9, x10, x11, x12, x13⟩ : BI), (⟨x14, x15, x16, x17⟩ : AD), (Lib.cut x18 ([10] : List UInt8)).2.1, IntKind.i64.wrap (x19 + (IntKind.i64.wrap ((x18.length : Int) - (((Lib.cut x18 ([10] : List UInt8)).2.1).length : Int)))), x20⟩ : CF) ((Lib.cut x18 ([10] : List UInt8)).1) x19).bind fun (x61, x62, x63, x64) => (Fa).bind fun x65 => (Xn cfg.P 77 [Ai x61.e_, Ai x61.at_] [Ai x65.e_, Ai x65.at_]).bind fun x66 => Ac (!x66) (some (.inr (.inr (x63, x62.c_.FT, x62.c_.Ay, x62.c_.BN, x62.c_.Be, x62.c_.An.CX, x62.c_.An.BS, x62.c_.Eu, x62.c_.Bf, x62.c_.Name, x62.c_.Head, x62.c_.BF, x62.Aw.Text, x62.Aw.Bu, x62.Aw.Fold, x62.Aw.BG, x62.GB, x62.at_, x64, x61.at_, x61.e_)))) (some (.inl (x63, x62.c_.FT, x62.c_.Ay, x62.c_.BN, x62.c_.Be, x62.c_.An.CX, x62.c_.An.BS, x62.c_.Eu, x62.c_.Bf, x62.c_.Name, x62.c_.Head, x62.c_.BF, x62.Aw.Text, x62.Aw.Bu, x62.Aw.Fold, x62.Aw.BG, x62.GB, x62.at_, x64)))) (some (.inr (.inl (x2, x3, x4, x5, x6, x7, x8, x9, x10, x11, x12, x13, x14, x15, x16, x17, x18, x19, x20))))
def Ii (p0 : List UInt8) : Option (BI × Int × Int) :=
 Ac (decide ((p0.length : Int) > 65536)) (some ((⟨([] : List AD), ([] : List AD), ([] : List Ao), false, false, (0 : Int), false, (⟨(0 : Int), (0 : Int)⟩ : Bb), (0 : Int), (0 : Int), (0 : Int), (0 : Int), (0 : Int)⟩ : BI), (0 : Int), (12 : Int))) ((HJ).bind fun _ => (loop (I7) (([] : List AD), false, false, (0 : Int), false, (0 : Int), (0 : Int), (0 : Int), (0 : Int), (4096 : Int), (65536 : Int), (4096 : Int), ([] : List UInt8), false, false, true, p0, (0 : Int), ([] : List ((List UInt8) × Bool)))).bind fun o1 => (match o1 with | .inl (x21, x22, x23, x24, x25, x26, x27, x28, x29, x30, x31, x32, x33, x34, x35, x36, x37, x38, x39) => some ((⟨([] : List AD), x21, ([] : List Ao), x22, x23, x24, x25, (⟨x26, x27⟩ : Bb), x28, x29, x30, x31, x32⟩ : BI), (0 : Int), (0 : Int)) | .inr (x40, x41, x42, x43, x44, x45, x46, x47, x48, x49, x50, x51, x52, x53, x54, x55, x56, x57, x58, x59, x60) => some ((⟨([] : List AD), ([] : List AD), ([] : List Ao), false, false, (0 : Int), false, (⟨(0 : Int), (0 : Int)⟩ : Bb), (0 : Int), (0 : Int), (0 : Int), (0 : Int), (0 : Int)⟩ : BI), x59, x60)))
theorem Na {p0 q0 q1 q2} (hm : Ii p0 = some (q0, q1, q2)) (A : HH g h [] F) (hc : Ba (cfg.still 9) av = [.str p0] := by kernel_rfl) : ∃ v h', Bi cfg g h 9 av v h' ∧ v = .tuple [.agg (Am q0), Ai q1, Ai q2] ∧ HH g h' [] F := by
 refine XL 77 [.cell 2 29, .tmp 3, .tmp 4] hc ?_
 clear hc
 unfold Ii at hm
 refine bg 77 [(0, .str p0)] fun fr H => ?_
 refine AF 3 ?_
 obtain ⟨h1, e1, A⟩ := A.pu (.cells none 2 [.slice none 0, .slice none 0, .slice none 0, .bool false, .bool false, Ai 0, .bool false, Ai 0, Ai 0, Ai 0, Ai 0, Ai 0, Ai 0, Ai 0])
 refine BP 2 (.ptr (some (h.size, 0))) e1 H fun fr t H => ?_
 refine AP 2 [] H fun fr H => AR (AF 3 (AP 3 [(14, .bool (decide ((p0.length : Int) > 65536)))] H fun fr H => Ae 14 H hm (fun hb hm H => ?_) fun hb hm H => ?_))
 ·refine AF 4 ?_
  obtain ⟨h2, hx, A⟩ := A.s0 0 [.slice none 0, .slice none 0, .slice none 0, .bool false, .bool false, Ai 0, .bool false, Ai 0, Ai 0, Ai 0, Ai 0, Ai 0, Ai 0, Ai 0] [_, _, _, _, _, _, _, _, _, _, _, _, _, _]
  refine Dm 1 [] hx H fun fr t H => ?_
  refine AP 2 [(3, Ai 0), (4, Ai 12)] H fun fr H => AY ?_
  obtain ⟨rfl, rfl, rfl⟩ := Ho hm
  refine ⟨.inl rfl, .tuple [.agg [.slice none 0, .slice none 0, .slice none 0, .bool false, .bool false, Ai 0, .bool false, Ai 0, Ai 0, Ai 0, Ai 0, Ai 0, Ai 0, Ai 0], Ai 0, Ai 12], B8 (.cell (rT H) (BL (by kernel_rfl) (by kernel_rfl) (A.la 0 0 14)) (.tmp (rT H) (.tmp (rT H) .nil))), ?_⟩
  refine ⟨.tuple [.agg [vs AA ([] : List AD), vs AA ([] : List AD), vs AL ([] : List Ao), .bool false, .bool false, Ai 0, .bool false, Ai 0, Ai 0, Ai 0, Ai 0, Ai 0, Ai 0, Ai 0], Ai 0, Ai 12], h2, by first | rfl | (simp only [M5, Ma, NF, NB, Mz, M0, Mm, Mf, NI, MZ, My, Ic, Io, Iq, IQ, Ig, IK, Ir, Option.map_some] <;> rfl), ?_⟩
  replace A := A.d0
  exact ⟨rfl, A⟩
 refine CN 7 id ?_
 obtain ⟨⟨⟩, hx, hm⟩ := bind_some hm
 obtain ⟨v1, h3, hr, rfl, A1⟩ := L9 (av := []) hx (A.cut 0)
 replace A : HH g h3 [.obj h.size (.cells none 2 [.slice none 0, .slice none 0, .slice none 0, .bool false, .bool false, Ai (0 : Int), .bool false, Ai (0 : Int), Ai (0 : Int), Ai (0 : Int), Ai (0 : Int), Ai (0 : Int), Ai (0 : Int), Ai (0 : Int)])] F := A.Cp (n := 0) A1
 refine A8 16 hr H fun fr t H => ?_
 refine AG 2 [(17, .agg [.str ([] : List UInt8), .bool false, .bool false, .bool true]), (18, .str p0)] H fun fr H => ?_
 obtain ⟨h4, e2⟩ : ∃ x, x = h3.push (.map 2 []) := ⟨_, rfl⟩
 replace A : HH g h4 [.obj h3.size (.map 2 (CL (fun k : List UInt8 => .str k) (fun v : Bool => .bool v) ([] : List ((List UInt8) × Bool)))), _] F := (A.push _).to e2
 refine BP 19 (.map (some h3.size)) e2 H fun fr t H => ?_
 obtain ⟨h5, e3, A⟩ := A.pu (.cells none 2 [.slice none 0, .slice none 0, .slice none 0, .bool false, .bool false, Ai 0, .bool false, Ai 0, Ai 0, Ai 0, Ai 0, Ai 4096, Ai 65536, Ai 4096, .str ([] : List UInt8), .bool false, .bool false, .bool true, .str p0, Ai 0, .map (some h3.size)])
 refine Gf 1 [] 21 (.ptr (some (h4.size, 0))) e3 H fun fr t H => ?_
 refine B1 1 [(5, .ptr (some (h4.size, 0)))] 2 H fun fr H => ?_
 obtain ⟨h6, e4⟩ : ∃ x, x = h5.push (.map 2 LA.Nd) := ⟨_, rfl⟩
 replace A : HH g h6 [.obj h5.size (.map 2 LA.Nd), .obj h4.size (.cells none 2 [.slice none 0, .slice none 0, .slice none 0, .bool false, .bool false, Ai 0, .bool false, Ai 0, Ai 0, Ai 0, Ai 0, Ai 4096, Ai 65536, Ai 4096, .str ([] : List UInt8), .bool false, .bool false, .bool true, .str p0, Ai 0, .map (some h3.size)]), _, _] F := (A.push _).to e4
 have hr : ∀ g, Bi cfg g h5 18 [] (.map (some h5.size)) h6 := fun g => by rw [e4]; exact Vq (C := cfg) (f := 18) (j := 0) (n := 0) (es := LA.Nd) (by kernel_rfl) (l := exts) rfl (by kernel_rfl) (by kernel_rfl) (by kernel_rfl)
 refine As 22 _ _ H (fun fr => Steps.call (by kernel_rfl) (hr _)) fun fr t H => ?_
 refine AP 1 [(6, .map (some h5.size))] H fun fr H => AR (Af (id := 0) (by kernel_rfl) ?_)
 replace A : HH g h6 [.AK none 31 (AK AA ([] : List AD)), _, _, _, _] F := A.KI 31
 replace A : HH g h6 [_, _, _, .obj h4.size (.cells none 2 [AH none (([] : List AD).length), _, _, _, _, _, _, _, _, _, _, _, _, _, _, _, _, _, _, _, _]), _, _] F := A.KI 31
 replace A : HH g h6 [.AK none 92 (AK AL ([] : List Ao)), _, _, _, .obj h4.size (.cells none 2 [_, AH none (([] : List AD).length), _, _, _, _, _, _, _, _, _, _, _, _, _, _, _, _, _, _, _]), _, _] F := A.KI 92
 obtain ⟨o1, ho, hm⟩ := bind_some hm
 refine BU (Q' := fun e fr' h' => (∃ x21 x22 x23 x24 x25 x26 x27 x28 x29 x30 x31 x32 x33 x34 x35 x36 x37 x38 x39, e = .exit 0 ∧ .inl (x21, x22, x23, x24, x25, x26, x27, x28, x29, x30, x31, x32, x33, x34, x35, x36, x37, x38, x39) = o1 ∧ ∃ r2, Has fr' 77 [(2, .ptr (some (h.size, 0))), (5, .ptr (some (h4.size, 0)))] ∧ HH g h' [.AK none 92 (AK AL ([] : List Ao)), .AK r2 31 (AK AA x21), .AK none 31 (AK AA ([] : List AD)), .obj h5.size (.map 2 LA.Nd), .obj h4.size (.cells none 2 [AH none (([] : List AD).length), AH r2 x21.length, AH none (([] : List Ao).length), .bool x22, .bool x23, Ai x24, .bool x25, Ai x26, Ai x27, Ai x28, Ai x29, Ai x30, Ai x31, Ai x32, .str x33, .bool x34, .bool x35, .bool x36, .str x37, Ai x38, .map (some h3.size)]), .obj h3.size (.map 2 (CL (fun k : List UInt8 => .str k) (fun v : Bool => .bool v) x39)), .obj h.size (.cells none 2 [.slice none 0, .slice none 0, .slice none 0, .bool false, .bool false, Ai 0, .bool false, Ai 0, Ai 0, Ai 0, Ai 0, Ai 0, Ai 0, Ai 0])] F) ∨ (∃ x40 x41 x42 x43 x44 x45 x46 x47 x48 x49 x50 x51 x52 x53 x54 x55 x56 x57 x58 x59 x60, e = .ret ∧ .inr (x40, x41, x42, x43, x44, x45, x46, x47, x48, x49, x50, x51, x52, x53, x54, x55, x56, x57, x58, x59, x60) = o1 ∧ ∃ r3, Has fr' 77 [(2, .ptr (some (h.size, 0))), (3, Ai x59), (4, Ai x60)] ∧ HH g h' [.AK none 92 (AK AL ([] : List Ao)), .AK r3 31 (AK AA x40), .AK none 31 (AK AA ([] : List AD)), .obj h5.size (.map 2 LA.Nd), .obj h4.size (.cells none 2 [AH none (([] : List AD).length), AH r3 x40.length, AH none (([] : List Ao).length), .bool x41, .bool x42, Ai x43, .bool x44, Ai x45, Ai x46, Ai x47, Ai x48, Ai x49, Ai x50, Ai x51, .str x52, .bool x53, .bool x54, .bool x55, .str x56, Ai x57, .map (some h3.size)]), .obj h3.size (.map 2 (CL (fun k : List UInt8 => .str k) (fun v : Bool => .bool v) x58)), .obj h.size (.cells none 2 [.slice none 0, .slice none 0, .slice none 0, .bool false, .bool false, Ai 0, .bool false, Ai 0, Ai 0, Ai 0, Ai 0, Ai 0, Ai 0, Ai 0])] F) ∨ False) ?_ ?_
 ·refine CH (by kernel_rfl) (fun (s : (List AD) × Bool × Bool × Int × Bool × Int × Int × Int × Int × Int × Int × Int × (List UInt8) × Bool × Bool × Bool × (List UInt8) × Int × (List ((List UInt8) × Bool))) fr' h' => ∃ x2 x3 x4 x5 x6 x7 x8 x9 x10 x11 x12 x13 x14 x15 x16 x17 x18 x19 x20, (x2, x3, x4, x5, x6, x7, x8, x9, x10, x11, x12, x13, x14, x15, x16, x17, x18, x19, x20) = s ∧ ∃ r1, Has fr' 77 [(2, .ptr (some (h.size, 0))), (5, .ptr (some (h4.size, 0))), (6, .map (some h5.size))] ∧ HH g h' [.AK none 92 (AK AL ([] : List Ao)), .AK r1 31 (AK AA x2), .AK none 31 (AK AA ([] : List AD)), .obj h5.size (.map 2 LA.Nd), .obj h4.size (.cells none 2 [AH none (([] : List AD).length), AH r1 x2.length, AH none (([] : List Ao).length), .bool x3, .bool x4, Ai x5, .bool x6, Ai x7, Ai x8, Ai x9, Ai x10, Ai x11, Ai x12, Ai x13, .str x14, .bool x15, .bool x16, .bool x17, .str x18, Ai x19, .map (some h3.size)]), .obj h3.size (.map 2 (CL (fun k : List UInt8 => .str k) (fun v : Bool => .bool v) x20)), .obj h.size (.cells none 2 [.slice none 0, .slice none 0, .slice none 0, .bool false, .bool false, Ai 0, .bool false, Ai 0, Ai 0, Ai 0, Ai 0, Ai 0, Ai 0, Ai 0])] F) ho ⟨_, _, _, _, _, _, _, _, _, _, _, _, _, _, _, _, _, _, _, rfl, none, H.ls, A⟩ ?_
  clear ho hm H A
  intro s q fr h7 hI hm
  obtain ⟨x2, x3, x4, x5, x6, x7, x8, x9, x10, x11, x12, x13, x14, x15, x16, x17, x18, x19, x20, rfl, r1, H, A⟩ := hI
  unfold I7 at hm
  refine AR (AF 5 (Ah 3 [] 26 4 18 A H fun fr t H => ?_))
  refine AP 1 [(27, .bool (!(x18 == ([] : List UInt8))))] H fun fr H => Ae 27 H hm (fun hb hm H => ?_) fun hb hm H => ?_
  ·refine B0 id (Af (id := 1) (by kernel_rfl) ?_)
   refine AF 12 (Ah 3 [] 32 4 18 A H fun fr t H => ?_)
   obtain ⟨hb, hm⟩ := BE hm
   refine As 33 (.tuple [.str ((Lib.cut x18 ([10] : List UInt8)).1), .str ((Lib.cut x18 ([10] : List UInt8)).2.1), .bool ((Lib.cut x18 ([10] : List UInt8)).2.2)]) h7 H (fun fr => Steps.call (by kernel_rfl) (QE (C := cfg) (f := 19) (a := 0) (by kernel_rfl) (l := exts) rfl (by kernel_rfl) hb)) fun fr t H => ?_
   refine B1 7 [(7, .str ((Lib.cut x18 ([10] : List UInt8)).1)), (8, .str ((Lib.cut x18 ([10] : List UInt8)).2.1))] 5 H fun fr H => Ah 3 [] 40 4 19 A H fun fr t H => ?_
   refine AP 1 [(10, Ai x19)] H fun fr H => AR (Df 8 16 ?_)
   refine Ah 3 [(41, .ptr (some (h4.size, 0)))] 44 4 19 A H fun fr t H => ?_
   refine Ah 3 [] 48 4 18 A H fun fr t H => ?_
   obtain ⟨h8, hx, A⟩ := A.s4 19 [Ai (IntKind.i64.wrap (x19 + (IntKind.i64.wrap ((x18.length : Int) - (((Lib.cut x18 ([10] : List UInt8)).2.1).length : Int)))))] [_, _, _, _, _, _, _, _, _, _, _, _, _, _, _, _, _, _, _, _, _]
   refine Dn 7 [] hx H fun fr t H => ?_
   refine CI 5 id ?_
   obtain ⟨h9, hx, A⟩ := A.s4 18 [.str ((Lib.cut x18 ([10] : List UInt8)).2.1)] [_, _, _, _, _, _, _, _, _, _, _, _, _, _, _, _, _, _, _, _, _]
   refine Dn 4 [] hx H fun fr t H => ?_
   refine CI 7 id ?_
   replace A := A.k7 4 2 1 0 5 3 6
   obtain ⟨⟨x61, x62, x63, x64⟩, hx, hm⟩ := bind_some hm
   obtain ⟨v1, h10, hr, r4, rfl, A1⟩ := G6 (av := [.ptr (some (h4.size, 0)), .str ((Lib.cut x18 ([10] : List UInt8)).1), Ai x19, .map (some h5.size)]) hx (A.cut 6)
   replace A : HH g h10 [.obj h4.size (.cells none 2 [_, AH r4 x63.length, _, .bool x62.c_.FT, .bool x62.c_.Ay, Ai x62.c_.BN, .bool x62.c_.Be, Ai x62.c_.An.CX, Ai x62.c_.An.BS, Ai x62.c_.Eu, Ai x62.c_.Bf, Ai x62.c_.Name, Ai x62.c_.Head, Ai x62.c_.BF, .str x62.Aw.Text, .bool x62.Aw.Bu, .bool x62.Aw.Fold, .bool x62.Aw.BG, .str x62.GB, Ai x62.at_, _]), .AK none 31 (AK AA ([] : List AD)), .AK r4 31 (AK AA x63), .AK none 92 (AK AL ([] : List Ao)), .obj h3.size (.map 2 (CL (fun k : List UInt8 => .str k) (fun v : Bool => .bool v) x64)), .obj h5.size (.map 2 LA.Nd), _] F := A.Cp (n := 6) A1
   refine Ap 4 [] 64 hr H fun fr t H => ?_
   obtain ⟨h11, e5, A⟩ := A.pu (.cells none 2 [Ai 0, Ai 0])
   refine BP 11 (.ptr (some (h10.size, 0))) e5 H fun fr t H => ?_
   obtain ⟨h12, hx, A⟩ := A.s0 0 [Ai x61.e_, Ai x61.at_] [_, _]
   refine Cy hx H fun fr t H => ?_
   refine BD id (AR (JV 11 3 [(0, []), (1, [0]), (2, [])] ?_))
   refine CT 65 (.agg [Ai x61.e_, Ai x61.at_]) h12 [(0, h10.size)] (g.Bo) H (fun fr => .of (B3 (by kernel_rfl) (A.la 0 0 2))) (fun fr H => ?_)
   have A1 := A.Hz 0 (pr := [h10.size]) (.cons 0 rfl (by simp [Ck.ids]) .nil)
   obtain ⟨x65, hx, hm⟩ := bind_some hm
   obtain ⟨v1, h13, hr, rfl, A1⟩ := Gu (av := []) hx A1
   replace A := A.WW A1
   refine CT 66 (.agg [Ai x65.e_, Ai x65.at_]) h13 [(0, h10.size)] (h10.size :: g.Bo) H (fun fr => Steps.call (by kernel_rfl) hr) (fun fr H => ?_)
   obtain ⟨x66, hx, hm⟩ := bind_some hm
   refine CT 67 (.bool (!x66)) h13 [(0, h10.size)] (g.Bo) H (fun fr => .of (Wb (by kernel_rfl) hx)) (fun fr H => ?_)
   refine BD id (Ae 67 H hm (fun hb hm H => ?_) fun hb hm H => ?_)
   ·refine AR (JV 12 8 [(0, []), (1, []), (2, []), (3, []), (4, []), (5, [2, 4]), (6, []), (7, [])] ?_)
    refine AG 2 [(68, .agg [.slice none 0, .slice none 0, .slice none 0, .bool false, .bool false, Ai 0, .bool false, Ai 0, Ai 0, Ai 0, Ai 0, Ai 0, Ai 0, Ai 0]), (69, .ptr (some (h10.size, 1)))] H fun fr H => CT 70 (Ai x61.at_) h13 [(2, h10.size)] (g.Bo) H (fun fr => .of (EP (by kernel_rfl) (A.l1 0 1))) (fun fr H => ?_)
    refine AG 1 [(71, .ptr (some (h10.size, 0)))] H fun fr H => CT 72 (Ai x61.e_) h13 [(4, h10.size), (2, h10.size)] (g.Bo) H (fun fr => .of (EP (by kernel_rfl) (A.l1 0 0))) (fun fr H => ?_)
    replace A := A.k8 7 0 1 2 3 4 5 6
    have A1 := A.Hz 1 (pr := [h10.size, h10.size]) (.cons 0 rfl (by simp [Ck.ids]) (.cons 0 rfl (by simp [Ck.ids]) .nil))
    obtain ⟨h14, hx, A1⟩ := A1.st 0 rfl (o := 0) (new := [.slice none 0, .slice none 0, .slice none 0, .bool false, .bool false, Ai 0, .bool false, Ai 0, Ai 0, Ai 0, Ai 0, Ai 0, Ai 0, Ai 0]) (ds := [.slice none 0, .slice none 0, .slice none 0, .bool false, .bool false, Ai 0, .bool false, Ai 0, Ai 0, Ai 0, Ai 0, Ai 0, Ai 0, Ai 0]) (Nat.le_of_ble_eq_true rfl) rfl rfl
    replace A := A.XJ A1
    refine H5 (.tuple []) h14 [(4, h10.size), (2, h10.size)] (h10.size :: h10.size :: g.Bo) H (fun fr => .of (LZ (by kernel_rfl) (JU hx rfl))) (fun fr H => ?_)
    refine AP 2 [(3, Ai x61.at_), (4, Ai x61.e_)] H fun fr H => AY ?_
    replace A := A.k7 5 4 3 7 2 6 0
    exact nr hm fun e => Or.inr (.inl ⟨_, _, _, _, _, _, _, _, _, _, _, _, _, _, _, _, _, _, _, _, _, rfl, e, _, H.ls, A⟩)
   refine Fz ?_
   replace A := A.k7 4 3 2 6 1 5 7
   exact nx hm ⟨_, _, _, _, _, _, _, _, _, _, _, _, _, _, _, _, _, _, _, rfl, _, H.ls, A⟩
  refine Bz (i := 0) (by kernel_rfl) ?_
  exact nr hm fun e => .inl ⟨_, _, _, _, _, _, _, _, _, _, _, _, _, _, _, _, _, _, _, rfl, e, _, H.ls, A⟩
 clear ho
 clear A
 intro e fr h15 hQ
 rcases hQ with ⟨x21, x22, x23, x24, x25, x26, x27, x28, x29, x30, x31, x32, x33, x34, x35, x36, x37, x38, x39, rfl, rfl, r2, H, A⟩ | ⟨x40, x41, x42, x43, x44, x45, x46, x47, x48, x49, x50, x51, x52, x53, x54, x55, x56, x57, x58, x59, x60, rfl, rfl, r3, H, A⟩ | hF
 ·show AW _ _ _ _ _ _ _
  refine AF 7 (BA 3 [] 76 _ _ H (fun fr => .of (B3 (by kernel_rfl) (A.F5 4 rfl (o := 0) (n := 14) ⟨Nat.le_of_ble_eq_true rfl, rfl⟩))) fun fr t H => ?_)
  obtain ⟨h16, hx, A⟩ := A.s6 0 [AH none (([] : List AD).length), AH r2 x21.length, AH none (([] : List Ao).length), .bool x22, .bool x23, Ai x24, .bool x25, Ai x26, Ai x27, Ai x28, Ai x29, Ai x30, Ai x31, Ai x32] [_, _, _, _, _, _, _, _, _, _, _, _, _, _]
  refine Cy hx H fun fr t H => ?_
  refine AP 2 [(3, Ai 0), (4, Ai 0)] H fun fr H => AY ?_
  obtain ⟨rfl, rfl, rfl⟩ := Ho hm
  refine ⟨.inl rfl, .tuple [.agg [AH none (([] : List AD).length), AH r2 x21.length, AH none (([] : List Ao).length), .bool x22, .bool x23, Ai x24, .bool x25, Ai x26, Ai x27, Ai x28, Ai x29, Ai x30, Ai x31, Ai x32], Ai 0, Ai 0], B8 (.cell (rT H) (BL (by kernel_rfl) (by kernel_rfl) (A.la 6 0 14)) (.tmp (rT H) (.tmp (rT H) .nil))), ?_⟩
  obtain ⟨h17, hz0, A1⟩ := (A.front 2 rfl).WV (n := ([] : List AD).length) (z := 4) (BQ.J5 _) (by decide)
  replace A : HH g h17 [_, _, _, _, _, _] F := A1
  obtain ⟨h18, hz1, A1⟩ := (A.front 1 rfl).WV (n := x21.length) (z := 4) (BQ.J5 _) (by decide)
  replace A : HH g h18 [_, _, _, _, _] F := A1
  obtain ⟨h19, hz2, A1⟩ := (A.front 0 rfl).WV (n := ([] : List Ao).length) (z := 9) (Dk.J5 _) (by decide)
  replace A : HH g h19 [_, _, _, _] F := A1
  refine ⟨.tuple [.agg [vs AA ([] : List AD), vs AA x21, vs AL ([] : List Ao), .bool x22, .bool x23, Ai x24, .bool x25, Ai x26, Ai x27, Ai x28, Ai x29, Ai x30, Ai x31, Ai x32], Ai 0, Ai 0], h19, by first | rfl | (simp only [M5, Ma, NF, NB, Mz, M0, Mm, Mf, NI, MZ, My, Ic, Io, Iq, IQ, Ig, IK, Ir, Option.map_some, hz0, hz1, hz2] <;> rfl), ?_⟩
  replace A := A.d0
  exact ⟨rfl, A⟩
 ·obtain ⟨rfl, rfl, rfl⟩ := Ho hm
  refine ⟨.inl rfl, .tuple [.agg [.slice none 0, .slice none 0, .slice none 0, .bool false, .bool false, Ai 0, .bool false, Ai 0, Ai 0, Ai 0, Ai 0, Ai 0, Ai 0, Ai 0], Ai x59, Ai x60], B8 (.cell (rT H) (BL (by kernel_rfl) (by kernel_rfl) (A.la 6 0 14)) (.tmp (rT H) (.tmp (rT H) .nil))), ?_⟩
  refine ⟨.tuple [.agg [vs AA ([] : List AD), vs AA ([] : List AD), vs AL ([] : List Ao), .bool false, .bool false, Ai 0, .bool false, Ai 0, Ai 0, Ai 0, Ai 0, Ai 0, Ai 0, Ai 0], Ai x59, Ai x60], h15, by first | rfl | (simp only [M5, Ma, NF, NB, Mz, M0, Mm, Mf, NI, MZ, My, Ic, Io, Iq, IQ, Ig, IK, Ir, Option.map_some] <;> rfl), ?_⟩
  replace A := A.d0
  exact ⟨rfl, A⟩
 exact hF.elim
def GM (p0 : Bb) : Option (Bool) :=
 some ((((decide (p0.CX ≥ (-9007199254740991))) && (decide (p0.CX ≤ 9007199254740991))) && (decide (p0.BS ≥ 0))) && (decide (p0.BS < 1000000000)))
theorem Ke {p0 q0} (hm : GM p0 = some q0) (A : HH g h [] F) (hc : Ba (cfg.still 31) av = [.agg [Ai p0.CX, Ai p0.BS]] := by kernel_rfl) : ∃ v h', Bi cfg g h 31 av v h' ∧ v = .bool q0 ∧ HH g h' [] F := by
 refine EN 21 [.tmp 2] hc ?_
 clear hc
 unfold GM at hm
 refine bg 21 [(0, .agg [Ai p0.CX, Ai p0.BS])] fun fr H => ?_
 refine AF 2 ?_
 obtain ⟨h1, e1, A⟩ := A.pu (.cells none 2 [Ai p0.CX, Ai p0.BS])
 refine BP 1 (.ptr (some (h.size, 0))) e1 H fun fr t H => ?_
 refine B1 1 [] 19 H fun fr H => Ah 1 [] 4 0 0 A H fun fr t H => ?_
 refine AG 2 [(6, .bool (decide (p0.CX ≥ (-9007199254740991))))] H fun fr H => A9 4 (fun fr' h' => h1 = h' ∧ Has fr' 21 [(1, .ptr (some (h.size, 0))), (10, .bool ((decide (p0.CX ≥ (-9007199254740991))) && (decide (p0.CX ≤ 9007199254740991))))]) ?_ ?_
 ·cases hb : (decide (p0.CX ≥ (-9007199254740991)) : Bool) with
  | true =>
   replace H := H.kn 6 hb
   refine Ah 1 [] 8 0 0 A H fun fr t H => ?_
   exact AG 2 [(10, .bool (decide (p0.CX ≤ 9007199254740991)))] H fun fr H => BK H hb
  | false =>
   replace H := H.kn 6 hb
   exact AG 4 [(10, .bool false)] H fun fr H => BK H hb
 intro t fr h' hK
 obtain ⟨e, H⟩ := hK
 subst e
 refine AG 1 [(11, .bool ((decide (p0.CX ≥ (-9007199254740991))) && (decide (p0.CX ≤ 9007199254740991))))] H fun fr H => A9 4 (fun fr' h' => h1 = h' ∧ Has fr' 21 [(1, .ptr (some (h.size, 0))), (15, .bool (((decide (p0.CX ≥ (-9007199254740991))) && (decide (p0.CX ≤ 9007199254740991))) && (decide (p0.BS ≥ 0))))]) ?_ ?_
 ·cases hb : ((decide (p0.CX ≥ (-9007199254740991))) && (decide (p0.CX ≤ 9007199254740991)) : Bool) with
  | true =>
   replace H := H.kn 11 hb
   refine Ah 1 [] 13 0 1 A H fun fr t H => ?_
   exact AG 2 [(15, .bool (decide (p0.BS ≥ 0)))] H fun fr H => BK H hb
  | false =>
   replace H := H.kn 11 hb
   exact AG 4 [(15, .bool false)] H fun fr H => BK H hb
 intro t fr h' hK
 obtain ⟨e, H⟩ := hK
 subst e
 refine AG 1 [(16, .bool (((decide (p0.CX ≥ (-9007199254740991))) && (decide (p0.CX ≤ 9007199254740991))) && (decide (p0.BS ≥ 0))))] H fun fr H => A9 4 (fun fr' h' => h1 = h' ∧ Has fr' 21 [(20, .bool ((((decide (p0.CX ≥ (-9007199254740991))) && (decide (p0.CX ≤ 9007199254740991))) && (decide (p0.BS ≥ 0))) && (decide (p0.BS < 1000000000))))]) ?_ ?_
 ·cases hb : (((decide (p0.CX ≥ (-9007199254740991))) && (decide (p0.CX ≤ 9007199254740991))) && (decide (p0.BS ≥ 0)) : Bool) with
  | true =>
   replace H := H.kn 16 hb
   refine Ah 1 [] 18 0 1 A H fun fr t H => ?_
   exact AG 2 [(20, .bool (decide (p0.BS < 1000000000)))] H fun fr H => BK H hb
  | false =>
   replace H := H.kn 16 hb
   exact AG 4 [(20, .bool false)] H fun fr H => BK H hb
 intro t fr h' hK
 obtain ⟨e, H⟩ := hK
 subst e
 refine AP 1 [(2, .bool ((((decide (p0.CX ≥ (-9007199254740991))) && (decide (p0.CX ≤ 9007199254740991))) && (decide (p0.BS ≥ 0))) && (decide (p0.BS < 1000000000))))] H fun fr H => AY ?_
 obtain rfl := Ag hm
 refine ⟨.inl rfl, .bool ((((decide (p0.CX ≥ (-9007199254740991))) && (decide (p0.CX ≤ 9007199254740991))) && (decide (p0.BS ≥ 0))) && (decide (p0.BS < 1000000000))), rH H, ?_⟩
 replace A := A.d0
 exact ⟨rfl, A⟩
def IU (p0 : BI) : Option (Bool) :=
 (Bv p0.Name (1 : Int) (4096 : Int)).bind fun x1 => (Ac x1 ((Bv p0.Head (1 : Int) (65536 : Int)).bind fun x3 => some x3) (some false) : Option (Bool)).bind fun x2 => (Ac x2 ((Bv p0.BF (1 : Int) (4096 : Int)).bind fun x5 => some x5) (some false) : Option (Bool)).bind fun x4 => (Ac x4 ((Bv p0.Eu (0 : Int) (9999 : Int)).bind fun x7 => some x7) (some false) : Option (Bool)).bind fun x6 => (Ac x6 ((Bv p0.Bf (0 : Int) (9999 : Int)).bind fun x9 => some x9) (some false) : Option (Bool)).bind fun x8 => (Ac x8 ((Bv p0.BN (0 : Int) (3 : Int)).bind fun x11 => some x11) (some false) : Option (Bool)).bind fun x10 => (Ac x10 ((Ac (!p0.Be) (some true) ((GM p0.An).bind fun x14 => some x14) : Option (Bool)).bind fun x13 => some x13) (some false) : Option (Bool)).bind fun x12 => some x12
theorem Nb {p0 q0} (hm : IU p0 = some q0) (A : HH g h [] F) (hc : Ba (cfg.still 11) av = [.agg (Am p0)] := by kernel_rfl) : ∃ v h', Bi cfg g h 11 av v h' ∧ v = .bool q0 ∧ HH g h' [] F := by
 refine EN 48 [.tmp 2] hc ?_
 clear hc
 unfold IU at hm
 refine bg 48 [(0, .agg (Am p0))] fun fr H => ?_
 refine AF 2 ?_
 obtain ⟨h1, e1, A⟩ := A.pu (.cells none 2 (Am p0))
 refine BP 1 (.ptr (some (h.size, 0))) e1 H fun fr t H => ?_
 refine B1 1 [] 1 H fun fr H => B1 1 [(3, .func (.func 30) [] [])] 45 H fun fr H => Ah 2 [(4, .func (.func 30) [] [])] 6 0 11 A H fun fr t H => ?_
 obtain ⟨x1, hx, hm⟩ := bind_some hm
 obtain ⟨v1, h2, hr, rfl, A1⟩ := CG (av := [Ai p0.Name, Ai 1, Ai 4096]) hx (A.cut 0)
 replace A : HH g h2 [.obj h.size (.cells none 2 (Am p0))] F := A.Cp (n := 0) A1
 refine A8 7 hr H fun fr t H => ?_
 refine AG 1 [(8, .bool x1)] H fun fr H => ?_
 obtain ⟨x2, ho, hm⟩ := bind_some hm
 refine A9 5 (fun fr' h' => Has fr' 48 [(1, .ptr (some (h.size, 0))), (3, .func (.func 30) [] []), (13, .bool x2)] ∧ HH g h' [.obj h.size (.cells none 2 (Am p0))] F) ?_ ?_
 ·rcases AZ ho with ⟨hb, hm⟩ | ⟨hb, hm⟩
  ·replace H := H.kn 8 hb
   refine Ah 2 [(9, .func (.func 30) [] [])] 11 0 12 A H fun fr t H => ?_
   obtain ⟨x3, hx, hm⟩ := bind_some hm
   obtain ⟨v1, h4, hr, rfl, A1⟩ := CG (av := [Ai p0.Head, Ai 1, Ai 65536]) hx (A.cut 0)
   replace A := A.C4 A1
   refine A8 12 hr H fun fr t H => ?_
   refine AG 1 [(13, .bool x3)] H fun fr H => ?_
   obtain rfl := Ag hm
   exact at_nil ⟨H.ls, A⟩
  replace H := H.kn 8 hb
  refine AG 5 [(13, .bool false)] H fun fr H => ?_
  obtain rfl := Ag hm
  exact at_nil ⟨H.ls, A⟩
 clear A
 intro t fr h3 hK
 obtain ⟨H, A⟩ := hK
 refine AG 1 [(14, .bool x2)] H fun fr H => ?_
 obtain ⟨x4, ho, hm⟩ := bind_some hm
 refine A9 5 (fun fr' h' => Has fr' 48 [(1, .ptr (some (h.size, 0))), (3, .func (.func 30) [] []), (19, .bool x4)] ∧ HH g h' [.obj h.size (.cells none 2 (Am p0))] F) ?_ ?_
 ·rcases AZ ho with ⟨hb, hm⟩ | ⟨hb, hm⟩
  ·replace H := H.kn 14 hb
   refine Ah 2 [(15, .func (.func 30) [] [])] 17 0 13 A H fun fr t H => ?_
   obtain ⟨x5, hx, hm⟩ := bind_some hm
   obtain ⟨v1, h6, hr, rfl, A1⟩ := CG (av := [Ai p0.BF, Ai 1, Ai 4096]) hx (A.cut 0)
   replace A := A.C4 A1
   refine A8 18 hr H fun fr t H => ?_
   refine AG 1 [(19, .bool x5)] H fun fr H => ?_
   obtain rfl := Ag hm
   exact at_nil ⟨H.ls, A⟩
  replace H := H.kn 14 hb
  refine AG 5 [(19, .bool false)] H fun fr H => ?_
  obtain rfl := Ag hm
  exact at_nil ⟨H.ls, A⟩
 clear A
 intro t fr h5 hK
 obtain ⟨H, A⟩ := hK
 refine AG 1 [(20, .bool x4)] H fun fr H => ?_
 obtain ⟨x6, ho, hm⟩ := bind_some hm
 refine A9 5 (fun fr' h' => Has fr' 48 [(1, .ptr (some (h.size, 0))), (3, .func (.func 30) [] []), (25, .bool x6)] ∧ HH g h' [.obj h.size (.cells none 2 (Am p0))] F) ?_ ?_
 ·rcases AZ ho with ⟨hb, hm⟩ | ⟨hb, hm⟩
  ·replace H := H.kn 20 hb
   refine Ah 2 [(21, .func (.func 30) [] [])] 23 0 9 A H fun fr t H => ?_
   obtain ⟨x7, hx, hm⟩ := bind_some hm
   obtain ⟨v1, h8, hr, rfl, A1⟩ := CG (av := [Ai p0.Eu, Ai 0, Ai 9999]) hx (A.cut 0)
   replace A := A.C4 A1
   refine A8 24 hr H fun fr t H => ?_
   refine AG 1 [(25, .bool x7)] H fun fr H => ?_
   obtain rfl := Ag hm
   exact at_nil ⟨H.ls, A⟩
  replace H := H.kn 20 hb
  refine AG 5 [(25, .bool false)] H fun fr H => ?_
  obtain rfl := Ag hm
  exact at_nil ⟨H.ls, A⟩
 clear A
 intro t fr h7 hK
 obtain ⟨H, A⟩ := hK
 refine AG 1 [(26, .bool x6)] H fun fr H => ?_
 obtain ⟨x8, ho, hm⟩ := bind_some hm
 refine A9 5 (fun fr' h' => Has fr' 48 [(1, .ptr (some (h.size, 0))), (3, .func (.func 30) [] []), (31, .bool x8)] ∧ HH g h' [.obj h.size (.cells none 2 (Am p0))] F) ?_ ?_
 ·rcases AZ ho with ⟨hb, hm⟩ | ⟨hb, hm⟩
  ·replace H := H.kn 26 hb
   refine Ah 2 [(27, .func (.func 30) [] [])] 29 0 10 A H fun fr t H => ?_
   obtain ⟨x9, hx, hm⟩ := bind_some hm
   obtain ⟨v1, h10, hr, rfl, A1⟩ := CG (av := [Ai p0.Bf, Ai 0, Ai 9999]) hx (A.cut 0)
   replace A := A.C4 A1
   refine A8 30 hr H fun fr t H => ?_
   refine AG 1 [(31, .bool x9)] H fun fr H => ?_
   obtain rfl := Ag hm
   exact at_nil ⟨H.ls, A⟩
  replace H := H.kn 26 hb
  refine AG 5 [(31, .bool false)] H fun fr H => ?_
  obtain rfl := Ag hm
  exact at_nil ⟨H.ls, A⟩
 clear A
 intro t fr h9 hK
 obtain ⟨H, A⟩ := hK
 refine AG 1 [(32, .bool x8)] H fun fr H => ?_
 obtain ⟨x10, ho, hm⟩ := bind_some hm
 refine A9 5 (fun fr' h' => Has fr' 48 [(1, .ptr (some (h.size, 0))), (37, .bool x10)] ∧ HH g h' [.obj h.size (.cells none 2 (Am p0))] F) ?_ ?_
 ·rcases AZ ho with ⟨hb, hm⟩ | ⟨hb, hm⟩
  ·replace H := H.kn 32 hb
   refine Ah 2 [(33, .func (.func 30) [] [])] 35 0 5 A H fun fr t H => ?_
   obtain ⟨x11, hx, hm⟩ := bind_some hm
   obtain ⟨v1, h12, hr, rfl, A1⟩ := CG (av := [Ai p0.BN, Ai 0, Ai 3]) hx (A.cut 0)
   replace A := A.C4 A1
   refine A8 36 hr H fun fr t H => ?_
   refine AG 1 [(37, .bool x11)] H fun fr H => ?_
   obtain rfl := Ag hm
   exact at_nil ⟨H.ls, A⟩
  replace H := H.kn 32 hb
  refine AG 5 [(37, .bool false)] H fun fr H => ?_
  obtain rfl := Ag hm
  exact at_nil ⟨H.ls, A⟩
 clear A
 intro t fr h11 hK
 obtain ⟨H, A⟩ := hK
 refine AG 1 [(38, .bool x10)] H fun fr H => ?_
 obtain ⟨x12, ho, hm⟩ := bind_some hm
 refine A9 9 (fun fr' h' => Has fr' 48 [(47, .bool x12)] ∧ HH g h' [.obj h.size (.cells none 2 (Am p0))] F) ?_ ?_
 ·rcases AZ ho with ⟨hb, hm⟩ | ⟨hb, hm⟩
  ·replace H := H.kn 38 hb
   refine Ah 1 [] 40 0 6 A H fun fr t H => ?_
   refine AG 2 [(42, .bool (!p0.Be))] H fun fr H => ?_
   obtain ⟨x13, ho, hm⟩ := bind_some hm
   refine A9 4 (fun fr' h' => Has fr' 48 [(38, .bool true), (46, .bool x13)] ∧ HH g h' [.obj h.size (.cells none 2 (Am p0))] F) ?_ ?_
   ·rcases AZ ho with ⟨hb, hm⟩ | ⟨hb, hm⟩
    ·replace H := H.kn 42 hb
     refine AG 4 [(46, .bool true)] H fun fr H => ?_
     obtain rfl := Ag hm
     exact at_nil ⟨H.ls, A⟩
    replace H := H.kn 42 hb
    refine BA 1 [] 44 _ _ H (fun fr => .of (B3 (by kernel_rfl) (A.F5 0 rfl (o := 7) (n := 2) ⟨Nat.le_of_ble_eq_true rfl, rfl⟩))) fun fr t H => ?_
    obtain ⟨x14, hx, hm⟩ := bind_some hm
    obtain ⟨v1, h15, hr, rfl, A1⟩ := Ke (av := [.agg [Ai p0.An.CX, Ai p0.An.BS]]) hx (A.cut 0)
    replace A := A.C4 A1
    refine A8 45 hr H fun fr t H => ?_
    refine AG 1 [(46, .bool x14)] H fun fr H => ?_
    obtain rfl := Ag hm
    exact at_nil ⟨H.ls, A⟩
   clear A
   intro t fr h14 hK
   obtain ⟨H, A⟩ := hK
   refine AG 1 [(47, .bool x13)] H fun fr H => ?_
   obtain rfl := Ag hm
   exact at_nil ⟨H.ls, A⟩
  replace H := H.kn 38 hb
  refine AG 9 [(47, .bool false)] H fun fr H => ?_
  obtain rfl := Ag hm
  exact at_nil ⟨H.ls, A⟩
 clear A
 intro t fr h13 hK
 obtain ⟨H, A⟩ := hK
 refine AP 1 [(2, .bool x12)] H fun fr H => AY ?_
 obtain rfl := Ag hm
 refine ⟨.inl rfl, .bool x12, rH H, ?_⟩
 replace A := A.d0
 exact ⟨rfl, A⟩
def Hq (p0 : BI) : Option (BI) :=
 Ca (Lw 24 p0.AQ.length) <| Ca (Lw 24 p0.AS.length) <| Ca (Lw 56 p0.Bt.length) <| some p0
theorem Ms {p0 q0} (hm : Hq p0 = some q0) (A : HH g h [] F) (hc : Ba (cfg.still 12) av = [.agg (Am p0)] := by kernel_rfl) : ∃ v h', Bi cfg g h 12 av v h' ∧ v = .agg (Am q0) ∧ HH g h' [] F := by
 refine EN 16 [.cell 2 29] hc ?_
 clear hc
 unfold Hq at hm
 refine bg 16 [(0, .agg (Am p0))] fun fr H => ?_
 refine AF 2 ?_
 obtain ⟨h1, e1, A⟩ := A.pu (.cells none 2 (Am p0))
 refine BP 1 (.ptr (some (h.size, 0))) e1 H fun fr t H => ?_
 obtain ⟨h2, e2, A⟩ := A.pu (.cells none 2 [.slice none 0, .slice none 0, .slice none 0, .bool false, .bool false, Ai 0, .bool false, Ai 0, Ai 0, Ai 0, Ai 0, Ai 0, Ai 0, Ai 0])
 refine BP 2 (.ptr (some (h1.size, 0))) e2 H fun fr t H => ?_
 refine BD id (AR (JV 1 15 [(0, []), (1, []), (3, []), (4, []), (6, []), (7, []), (2, [4, 7]), (5, [7]), (8, []), (9, []), (10, []), (11, []), (12, []), (13, []), (14, [])] ?_))
 refine AG 1 [(3, .ptr (some (h.size, 0)))] H fun fr H => CT 4 (vs AA p0.AQ) h2 [(1, h.size)] (g.Bo) H (fun fr => .of (EP (by kernel_rfl) (A.l1 1 0))) (fun fr H => ?_)
 refine AG 1 [(6, .ptr (some (h.size, 1)))] H fun fr H => CT 7 (vs AA p0.AS) h2 [(4, h.size), (1, h.size)] (g.Bo) H (fun fr => .of (EP (by kernel_rfl) (A.l1 1 1))) (fun fr H => ?_)
 refine AG 1 [(9, .ptr (some (h.size, 2)))] H fun fr H => CT 10 (vs AL p0.Bt) h2 [(7, h.size), (4, h.size), (1, h.size)] (g.Bo) H (fun fr => .of (EP (by kernel_rfl) (A.l1 1 2))) (fun fr H => ?_)
 have A1 := A.Hz 0 (pr := [h.size, h.size]) (.cons 1 rfl (by simp [Ck.ids]) (.cons 1 rfl (by simp [Ck.ids]) .nil))
 obtain ⟨hb, hm⟩ := BE hm
 refine CT 5 (vs AA p0.AQ) h2 [(7, h.size), (4, h.size), (1, h.size)] (h.size :: h.size :: g.Bo) H (fun fr => Steps.call (by kernel_rfl) (GU (C := cfg) (f := 32) (a := 0) (t := 31) (xs := p0.AQ) BQ (by decide) (by kernel_rfl) (l := exts) rfl (by kernel_rfl) (by kernel_rfl) rfl (Py BQ _ p0.AQ) (BQ.Ba _) hb)) (fun fr H => ?_)
 have A1 := A.Hz 0 (pr := [h.size]) (.cons 1 rfl (by simp [Ck.ids]) .nil)
 obtain ⟨hb, hm⟩ := BE hm
 refine CT 8 (vs AA p0.AS) h2 [(7, h.size), (4, h.size), (1, h.size)] (h.size :: g.Bo) H (fun fr => Steps.call (by kernel_rfl) (GU (C := cfg) (f := 32) (a := 0) (t := 31) (xs := p0.AS) BQ (by decide) (by kernel_rfl) (l := exts) rfl (by kernel_rfl) (by kernel_rfl) rfl (Py BQ _ p0.AS) (BQ.Ba _) hb)) (fun fr H => ?_)
 have A1 := A.cut 0
 obtain ⟨hb, hm⟩ := BE hm
 refine CT 11 (vs AL p0.Bt) h2 [(7, h.size), (4, h.size), (1, h.size)] (g.Bo) H (fun fr => Steps.call (by kernel_rfl) (GU (C := cfg) (f := 33) (a := 0) (t := 92) (xs := p0.Bt) Dk (by decide) (by kernel_rfl) (l := exts) rfl (by kernel_rfl) (by kernel_rfl) rfl (Py Dk _ p0.Bt) (Dk.Ba _) hb)) (fun fr H => ?_)
 refine AG 1 [(12, .ptr (some (h.size, 0)))] H fun fr H => ?_
 obtain ⟨h6, hx, A1⟩ := A.st 1 rfl (o := 0) (new := [vs AA p0.AQ]) (ds := (Am p0)) (Nat.le_of_ble_eq_true rfl) rfl rfl
 replace A : HH g h6 [.obj h1.size (.cells none 2 [.slice none 0, .slice none 0, .slice none 0, .bool false, .bool false, Ai 0, .bool false, Ai 0, Ai 0, Ai 0, Ai 0, Ai 0, Ai 0, Ai 0]), .obj h.size (.cells none 2 (Am p0))] F := A1
 refine H5 (.tuple []) h6 [(7, h.size), (4, h.size), (1, h.size)] (g.Bo) H (fun fr => .of (N5 (by kernel_rfl) rfl hx)) (fun fr H => ?_)
 refine AG 1 [(13, .ptr (some (h.size, 1)))] H fun fr H => ?_
 obtain ⟨h7, hx, A⟩ := A.s1 1 [vs AA p0.AS] [_, _, _, _, _, _, _, _, _, _, _, _, _, _]
 refine H5 (.tuple []) h7 [(7, h.size), (4, h.size), (1, h.size)] (g.Bo) H (fun fr => .of (N5 (by kernel_rfl) rfl hx)) (fun fr H => ?_)
 refine AG 1 [(14, .ptr (some (h.size, 2)))] H fun fr H => ?_
 obtain ⟨h8, hx, A⟩ := A.s1 2 [vs AL p0.Bt] [_, _, _, _, _, _, _, _, _, _, _, _, _, _]
 refine H5 (.tuple []) h8 [(7, h.size), (4, h.size), (1, h.size)] (g.Bo) H (fun fr => .of (N5 (by kernel_rfl) rfl hx)) (fun fr H => ?_)
 refine CI 2 id (As 15 _ _ H (fun fr => .of (B3 (by kernel_rfl) (A.F5 1 rfl (o := 0) (n := 14) ⟨Nat.le_of_ble_eq_true rfl, rfl⟩))) fun fr t H => ?_)
 obtain ⟨h9, hx, A⟩ := A.s0 0 (Am p0) [_, _, _, _, _, _, _, _, _, _, _, _, _, _]
 refine Cy hx H fun fr t H => ?_
 refine BD id (AY ?_)
 obtain rfl := Ag hm
 refine ⟨.inl rfl, .agg (Am p0), CS (.cell (rT H) (BL (by kernel_rfl) (by kernel_rfl) (A.la 0 0 14)) .nil), ?_⟩
 replace A := A.d0
 exact ⟨rfl, A⟩
def Es (p0 : C3) (p1 : Int) : Option (Bool) :=
 some (p0.BG || (p1 != 47))
theorem GR {p0 p1 q0} (hm : Es p0 p1 = some q0) (A : HH g h [] F) (hc : Ba (cfg.still 257) av = [.agg [.bool p0.Fold, .bool p0.BG], Ab p1] := by kernel_rfl) : ∃ v h', Bi cfg g h 257 av v h' ∧ v = .bool q0 ∧ HH g h' [] F := by
 refine EN 11 [.tmp 4] hc ?_
 clear hc
 unfold Es at hm
 refine bg 11 [(0, .agg [.bool p0.Fold, .bool p0.BG]), (1, Ab p1)] fun fr H => ?_
 refine AF 2 ?_
 obtain ⟨h1, e1, A⟩ := A.pu (.cells none 2 [.bool p0.Fold, .bool p0.BG])
 refine BP 2 (.ptr (some (h.size, 0))) e1 H fun fr t H => ?_
 refine B1 1 [] 7 H fun fr H => Ah 1 [] 6 0 1 A H fun fr t H => ?_
 refine AG 1 [(7, .bool p0.BG)] H fun fr H => A9 3 (fun fr' h' => h1 = h' ∧ Has fr' 11 [(10, .bool (p0.BG || (p1 != 47)))]) ?_ ?_
 ·cases hb : (p0.BG : Bool) with
  | true =>
   replace H := H.kn 7 hb
   exact AG 3 [(10, .bool true)] H fun fr H => BK H hb
  | false =>
   replace H := H.kn 7 hb
   exact AG 3 [(10, .bool (p1 != 47))] H fun fr H => BK H hb
 intro t fr h' hK
 obtain ⟨e, H⟩ := hK
 subst e
 refine AP 1 [(4, .bool (p0.BG || (p1 != 47)))] H fun fr H => AY ?_
 obtain rfl := Ag hm
 refine ⟨.inl rfl, .bool (p0.BG || (p1 != 47)), rH H, ?_⟩
 replace A := A.d0
 exact ⟨rfl, A⟩
def Em (p0 : Ad) (p1 : Int) : Option (Bool) :=
 (HO ([p0.w0, p0.w1, p0.w2, p0.w3] : List Int) (By .u8 p1 (6 : Int))).bind fun x1 => Ca (decide (0 ≤ (Br .u8 p1 (63 : Int)))) <| some ((Br .u64 (By .u64 x1 (Br .u8 p1 (63 : Int))) (1 : Int)) == 1)
theorem Jb {p0 p1 q0} (hm : Em p0 p1 = some q0) (A : HH g h [] F) (hc : Ba (cfg.still 203) av = [.agg (AN p0), Ab p1] := by kernel_rfl) : ∃ v h', Bi cfg g h 203 av v h' ∧ v = .bool q0 ∧ HH g h' [] F := by
 refine EN 14 [.tmp 4] hc ?_
 clear hc
 unfold Em at hm
 refine bg 14 [(0, .agg (AN p0)), (1, Ab p1)] fun fr H => ?_
 refine AF 2 ?_
 obtain ⟨h1, e1, A⟩ := A.pu (.cells none 2 (AN p0))
 refine BP 2 (.ptr (some (h.size, 0))) e1 H fun fr t H => ?_
 refine B1 1 [] 10 H fun fr H => ?_
 obtain ⟨x1, hq1, hm⟩ := bind_some hm
 refine BA 2 [] 7 (.ptr (some (h.size, 0 + (By .u8 p1 (6 : Int)).toNat * 1))) h1 H (fun fr => .of (Hv (by kernel_rfl) (It hq1 (h.size, 0) 1 rfl))) fun fr t H => ?_
 refine As 8 _ _ H (fun fr => .of (EP (by kernel_rfl) (HH.Vh A 0 rfl 0 (fun w : Int => Au w) [p0.w0, p0.w1, p0.w2, p0.w3] rfl hq1))) fun fr t H => ?_
 refine AG 2 [(10, Ab (Br .u8 p1 (63 : Int)))] H fun fr H => ?_
 obtain ⟨hb, hm⟩ := BE hm
 refine As 11 (Au (By .u64 x1 (Br .u8 p1 (63 : Int)))) h1 H (fun fr => .of (Sp (by kernel_rfl) hb)) fun fr t H => ?_
 refine AP 3 [(4, .bool ((Br .u64 (By .u64 x1 (Br .u8 p1 (63 : Int))) (1 : Int)) == 1))] H fun fr H => AY ?_
 obtain rfl := Ag hm
 refine ⟨.inl rfl, .bool ((Br .u64 (By .u64 x1 (Br .u8 p1 (63 : Int))) (1 : Int)) == 1), rH H, ?_⟩
 replace A := A.d0
 exact ⟨rfl, A⟩
def Fx (p0 : Ad) : Option (Ad) :=
 some (⟨p0.w0, G9 .u64 p0.w1 (G9 .u64 (Fk .u64 (Br .u64 p0.w1 (134217726 : Int)) (32 : Int)) (By .u64 (Br .u64 p0.w1 (576460743713488896 : Int)) (32 : Int))), p0.w2, p0.w3⟩ : Ad)
theorem MM {p0 q0} (hm : Fx p0 = some q0) (A : HH g h [] F) (hc : Ba (cfg.still 144) av = [.agg (AN p0)] := by kernel_rfl) : ∃ v h', Bi cfg g h 144 av v h' ∧ v = .agg (AN q0) ∧ HH g h' [] F := by
 refine EN 17 [.cell 2 217] hc ?_
 clear hc
 unfold Fx at hm
 refine bg 17 [(0, .agg (AN p0))] fun fr H => ?_
 refine AF 2 ?_
 obtain ⟨h1, e1, A⟩ := A.pu (.cells none 2 (AN p0))
 refine BP 1 (.ptr (some (h.size, 0))) e1 H fun fr t H => ?_
 obtain ⟨h2, e2, A⟩ := A.pu (.cells none 2 [Au 0, Au 0, Au 0, Au 0])
 refine BP 2 (.ptr (some (h1.size, 0))) e2 H fun fr t H => ?_
 refine CI 14 id (Ah 1 [] 4 1 1 A H fun fr t H => ?_)
 refine Ah 1 [] 6 1 1 A H fun fr t H => ?_
 refine Ah 3 [(8, Au (Fk .u64 (Br .u64 p0.w1 (134217726 : Int)) (32 : Int)))] 10 1 1 A H fun fr t H => ?_
 obtain ⟨h3, hx, A1⟩ := A.st 1 rfl (o := 1) (new := [Au (G9 .u64 p0.w1 (G9 .u64 (Fk .u64 (Br .u64 p0.w1 (134217726 : Int)) (32 : Int)) (By .u64 (Br .u64 p0.w1 (576460743713488896 : Int)) (32 : Int))))]) (ds := (I8 p0 (Au (G9 .u64 p0.w1 (G9 .u64 (Fk .u64 (Br .u64 p0.w1 (134217726 : Int)) (32 : Int)) (By .u64 (Br .u64 p0.w1 (576460743713488896 : Int)) (32 : Int))))))) (Nat.le_of_ble_eq_true rfl) rfl rfl
 replace A : HH g h3 [.obj h1.size (.cells none 2 [Au 0, Au 0, Au 0, Au 0]), .obj h.size (.cells none 2 (I8 p0 (Au (G9 .u64 p0.w1 (G9 .u64 (Fk .u64 (Br .u64 p0.w1 (134217726 : Int)) (32 : Int)) (By .u64 (Br .u64 p0.w1 (576460743713488896 : Int)) (32 : Int)))))))] F := A1
 refine Dn 5 [] hx H fun fr t H => ?_
 refine CI 2 id (As 16 _ _ H (fun fr => .of (B3 (by kernel_rfl) (A.F5 1 rfl (o := 0) (n := 4) ⟨Nat.le_of_ble_eq_true rfl, rfl⟩))) fun fr t H => ?_)
 obtain ⟨h4, hx, A⟩ := A.s0 0 (I8 p0 (Au (G9 .u64 p0.w1 (G9 .u64 (Fk .u64 (Br .u64 p0.w1 (134217726 : Int)) (32 : Int)) (By .u64 (Br .u64 p0.w1 (576460743713488896 : Int)) (32 : Int)))))) [_, _, _, _]
 refine Cy hx H fun fr t H => ?_
 refine BD id (AY ?_)
 obtain rfl := Ag hm
 refine ⟨.inl rfl, .agg (I8 p0 (Au (G9 .u64 p0.w1 (G9 .u64 (Fk .u64 (Br .u64 p0.w1 (134217726 : Int)) (32 : Int)) (By .u64 (Br .u64 p0.w1 (576460743713488896 : Int)) (32 : Int)))))), CS (.cell (rT H) (BL (by kernel_rfl) (by kernel_rfl) (A.la 0 0 4)) .nil), ?_⟩
 replace A := A.d0
 exact ⟨rfl, A⟩
def FA (p0 : C3) (p1 : AM) (p2 : Int) : Option (Bool) :=
 Ac (p1.Kind == 1) ((Ac (p2 == p1.B) (some true) ((Ac p0.Fold ((HW p1.B).bind fun x3 => some (p2 == x3)) (some false) : Option (Bool)).bind fun x2 => some x2) : Option (Bool)).bind fun x1 => some x1) (Ac (p1.Kind == 2) ((Es p0 p2).bind fun x4 => some x4) (Ac (p1.Kind == 3) ((Es p0 p2).bind fun x5 => (Ac x5 ((Em p1.Set p2).bind fun x7 => (Ac x7 (some true) ((Ac p0.Fold ((Fx p1.Set).bind fun x10 => (Em x10 p2).bind fun x11 => some x11) (some false) : Option (Bool)).bind fun x9 => some x9) : Option (Bool)).bind fun x8 => some x8) (some false) : Option (Bool)).bind fun x6 => some x6) (some false)))
theorem ML {p0 p1 p2 q0} (hm : FA p0 p1 p2 = some q0) (A : HH g h [] F) (hc : Ba (cfg.still 256) av = [.agg [.bool p0.Fold, .bool p0.BG], .agg (AO p1), Ab p2] := by kernel_rfl) : ∃ v h', Bi cfg g h 256 av v h' ∧ v = .bool q0 ∧ HH g h' [] F := by
 refine EN 53 [.tmp 6] hc ?_
 clear hc
 unfold FA at hm
 refine bg 53 [(0, .agg [.bool p0.Fold, .bool p0.BG]), (1, .agg (AO p1)), (2, Ab p2)] fun fr H => ?_
 refine AF 3 ?_
 obtain ⟨h1, e1, A⟩ := A.pu (.cells none 2 [.bool p0.Fold, .bool p0.BG])
 refine BP 3 (.ptr (some (h.size, 0))) e1 H fun fr t H => ?_
 obtain ⟨h2, e2, A⟩ := A.pu (.cells none 2 (AO p1))
 refine BP 4 (.ptr (some (h1.size, 0))) e2 H fun fr t H => ?_
 refine AP 1 [] H fun fr H => AR (AF 2 (Ah 1 [] 8 0 0 A H fun fr t H => ?_))
 refine BD id (Af (id := 0) (by kernel_rfl) ?_)
 refine AF 2 (AP 2 [(9, .bool (p1.Kind == 1))] H fun fr H => Ae 9 H hm (fun hb hm H => ?_) fun hb hm H => ?_)
 ·refine AF 16 (Ah 2 [(11, Ab p2)] 13 0 1 A H fun fr t H => ?_)
  refine AG 2 [(15, .bool (p2 == p1.B))] H fun fr H => ?_
  obtain ⟨x1, ho, hm⟩ := bind_some hm
  refine A9 10 (fun fr' h' => Has fr' 53 [(25, .bool x1)] ∧ HH g h' [.obj h1.size (.cells none 2 (AO p1)), .obj h.size (.cells none 2 [.bool p0.Fold, .bool p0.BG])] F) ?_ ?_
  ·rcases AZ ho with ⟨hb, hm⟩ | ⟨hb, hm⟩
   ·replace H := H.kn 15 hb
    refine AG 10 [(25, .bool true)] H fun fr H => ?_
    obtain rfl := Ag hm
    exact at_nil ⟨H.ls, A⟩
   replace H := H.kn 15 hb
   refine Ah 1 [] 17 1 0 A H fun fr t H => ?_
   refine AG 1 [(18, .bool p0.Fold)] H fun fr H => ?_
   obtain ⟨x2, ho, hm⟩ := bind_some hm
   refine A9 6 (fun fr' h' => Has fr' 53 [(15, .bool false), (24, .bool x2)] ∧ HH g h' [.obj h1.size (.cells none 2 (AO p1)), .obj h.size (.cells none 2 [.bool p0.Fold, .bool p0.BG])] F) ?_ ?_
   ·rcases AZ ho with ⟨hb, hm⟩ | ⟨hb, hm⟩
    ·replace H := H.kn 18 hb
     refine Ah 2 [(19, Ab p2)] 21 0 1 A H fun fr t H => ?_
     obtain ⟨x3, hx, hm⟩ := bind_some hm
     obtain ⟨v1, h5, hr, rfl, A1⟩ := Nt (av := [Ab p1.B]) hx (A.cut 0)
     replace A : HH g h5 [.obj h1.size (.cells none 2 (AO p1)), .obj h.size (.cells none 2 [.bool p0.Fold, .bool p0.BG])] F := A.Cp (n := 0) A1
     refine A8 22 hr H fun fr t H => ?_
     refine AG 2 [(24, .bool (p2 == x3))] H fun fr H => ?_
     obtain rfl := Ag hm
     exact at_nil ⟨H.ls, A⟩
    replace H := H.kn 18 hb
    refine AG 6 [(24, .bool false)] H fun fr H => ?_
    obtain rfl := Ag hm
    exact at_nil ⟨H.ls, A⟩
   clear A
   intro t fr h4 hK
   obtain ⟨H, A⟩ := hK
   refine AG 1 [(25, .bool x2)] H fun fr H => ?_
   obtain rfl := Ag hm
   exact at_nil ⟨H.ls, A⟩
  clear A
  intro t fr h3 hK
  obtain ⟨H, A⟩ := hK
  refine AP 1 [(6, .bool x1)] H fun fr H => AY ?_
  obtain rfl := Ag hm
  refine ⟨.inl rfl, .bool x1, rH H, ?_⟩
  replace A := A.d0
  exact ⟨rfl, A⟩
 refine AF 2 (AP 2 [(26, .bool (p1.Kind == 2))] H fun fr H => Ae 26 H hm (fun hb hm H => ?_) fun hb hm H => ?_)
 ·refine AF 4 (As 28 _ _ H (fun fr => .of (B3 (by kernel_rfl) (A.F5 1 rfl (o := 0) (n := 2) ⟨Nat.le_of_ble_eq_true rfl, rfl⟩))) fun fr t H => ?_)
  obtain ⟨x4, hx, hm⟩ := bind_some hm
  obtain ⟨v1, h6, hr, rfl, A1⟩ := GR (av := [.agg [.bool p0.Fold, .bool p0.BG], Ab p2]) hx (A.cut 0)
  replace A : HH g h6 [.obj h1.size (.cells none 2 (AO p1)), .obj h.size (.cells none 2 [.bool p0.Fold, .bool p0.BG])] F := A.Cp (n := 0) A1
  refine Ap 1 [] 30 hr H fun fr t H => ?_
  refine AP 1 [(6, .bool x4)] H fun fr H => AY ?_
  obtain rfl := Ag hm
  refine ⟨.inl rfl, .bool x4, rH H, ?_⟩
  replace A := A.d0
  exact ⟨rfl, A⟩
 refine AF 2 (AP 2 [(31, .bool (p1.Kind == 3))] H fun fr H => Ae 31 H hm (fun hb hm H => ?_) fun hb hm H => ?_)
 ·refine AF 21 (As 33 _ _ H (fun fr => .of (B3 (by kernel_rfl) (A.F5 1 rfl (o := 0) (n := 2) ⟨Nat.le_of_ble_eq_true rfl, rfl⟩))) fun fr t H => ?_)
  obtain ⟨x5, hx, hm⟩ := bind_some hm
  obtain ⟨v1, h7, hr, rfl, A1⟩ := GR (av := [.agg [.bool p0.Fold, .bool p0.BG], Ab p2]) hx (A.cut 0)
  replace A : HH g h7 [.obj h1.size (.cells none 2 (AO p1)), .obj h.size (.cells none 2 [.bool p0.Fold, .bool p0.BG])] F := A.Cp (n := 0) A1
  refine Ap 1 [] 35 hr H fun fr t H => ?_
  refine AG 1 [(36, .bool x5)] H fun fr H => ?_
  obtain ⟨x6, ho, hm⟩ := bind_some hm
  refine A9 16 (fun fr' h' => Has fr' 53 [(52, .bool x6)] ∧ HH g h' [.obj h1.size (.cells none 2 (AO p1)), .obj h.size (.cells none 2 [.bool p0.Fold, .bool p0.BG])] F) ?_ ?_
  ·rcases AZ ho with ⟨hb, hm⟩ | ⟨hb, hm⟩
   ·replace H := H.kn 36 hb
    refine BA 1 [] 38 _ _ H (fun fr => .of (B3 (by kernel_rfl) (A.F5 0 rfl (o := 2) (n := 4) ⟨Nat.le_of_ble_eq_true rfl, rfl⟩))) fun fr t H => ?_
    obtain ⟨x7, hx, hm⟩ := bind_some hm
    obtain ⟨v1, h9, hr, rfl, A1⟩ := Jb (av := [.agg (AN p1.Set), Ab p2]) hx (A.cut 0)
    replace A := A.C4 A1
    refine Ap 1 [] 40 hr H fun fr t H => ?_
    refine AG 1 [(41, .bool x7)] H fun fr H => ?_
    obtain ⟨x8, ho, hm⟩ := bind_some hm
    refine A9 10 (fun fr' h' => Has fr' 53 [(36, .bool true), (51, .bool x8)] ∧ HH g h' [.obj h1.size (.cells none 2 (AO p1)), .obj h.size (.cells none 2 [.bool p0.Fold, .bool p0.BG])] F) ?_ ?_
    ·rcases AZ ho with ⟨hb, hm⟩ | ⟨hb, hm⟩
     ·replace H := H.kn 41 hb
      refine AG 10 [(51, .bool true)] H fun fr H => ?_
      obtain rfl := Ag hm
      exact at_nil ⟨H.ls, A⟩
     replace H := H.kn 41 hb
     refine Ah 1 [] 43 1 0 A H fun fr t H => ?_
     refine AG 1 [(44, .bool p0.Fold)] H fun fr H => ?_
     obtain ⟨x9, ho, hm⟩ := bind_some hm
     refine A9 6 (fun fr' h' => Has fr' 53 [(36, .bool true), (41, .bool false), (50, .bool x9)] ∧ HH g h' [.obj h1.size (.cells none 2 (AO p1)), .obj h.size (.cells none 2 [.bool p0.Fold, .bool p0.BG])] F) ?_ ?_
     ·rcases AZ ho with ⟨hb, hm⟩ | ⟨hb, hm⟩
      ·replace H := H.kn 44 hb
       refine BA 1 [] 46 _ _ H (fun fr => .of (B3 (by kernel_rfl) (A.F5 0 rfl (o := 2) (n := 4) ⟨Nat.le_of_ble_eq_true rfl, rfl⟩))) fun fr t H => ?_
       obtain ⟨x10, hx, hm⟩ := bind_some hm
       obtain ⟨v1, h12, hr, rfl, A1⟩ := MM (av := [.agg (AN p1.Set)]) hx (A.cut 0)
       replace A := A.C4 A1
       refine A8 47 hr H fun fr t H => ?_
       obtain ⟨x11, hx, hm⟩ := bind_some hm
       obtain ⟨v1, h13, hr, rfl, A1⟩ := Jb (av := [.agg (AN x10), Ab p2]) hx (A.cut 0)
       replace A := A.C4 A1
       refine Ap 1 [] 49 hr H fun fr t H => ?_
       refine AG 1 [(50, .bool x11)] H fun fr H => ?_
       obtain rfl := Ag hm
       exact at_nil ⟨H.ls, A⟩
      replace H := H.kn 44 hb
      refine AG 6 [(50, .bool false)] H fun fr H => ?_
      obtain rfl := Ag hm
      exact at_nil ⟨H.ls, A⟩
     clear A
     intro t fr h11 hK
     obtain ⟨H, A⟩ := hK
     refine AG 1 [(51, .bool x9)] H fun fr H => ?_
     obtain rfl := Ag hm
     exact at_nil ⟨H.ls, A⟩
    clear A
    intro t fr h10 hK
    obtain ⟨H, A⟩ := hK
    refine AG 1 [(52, .bool x8)] H fun fr H => ?_
    obtain rfl := Ag hm
    exact at_nil ⟨H.ls, A⟩
   replace H := H.kn 36 hb
   refine AG 16 [(52, .bool false)] H fun fr H => ?_
   obtain rfl := Ag hm
   exact at_nil ⟨H.ls, A⟩
  clear A
  intro t fr h8 hK
  obtain ⟨H, A⟩ := hK
  refine AP 1 [(6, .bool x6)] H fun fr H => AY ?_
  obtain rfl := Ag hm
  refine ⟨.inl rfl, .bool x6, rH H, ?_⟩
  replace A := A.d0
  exact ⟨rfl, A⟩
 refine CN 1 id (AP 1 [(6, .bool false)] H fun fr H => AY ?_)
 obtain rfl := Ag hm
 refine ⟨.inl rfl, .bool false, rH H, ?_⟩
 replace A := A.d0
 exact ⟨rfl, A⟩
def Ev (p0 : AV) (p1 : List UInt8) : Option (AV × (List UInt8)) :=
 some (p0, p1)
theorem I0 {p0 p1 q0_10 q0_11} (hm : Ev p0 p1 = some (q0_10, q0_11)) (A : HH g h [] F) (hc : Ba (cfg.still 170) av = [.BR (AE p0), .str p1] := by kernel_rfl) : ∃ v h', Bi cfg g h 170 av v h' ∧ ∃ (bq0_10 : Nat) (bq0_11 : Nat), v = .func (.func 211) [] [.ptr (some (bq0_10, 0)), .ptr (some (bq0_11, 0))] ∧ HH g h' [.obj bq0_10 (.cells none 2 [.BR (AE q0_10)]), .obj bq0_11 (.cells none 2 [.str q0_11])] F := by
 refine EN 6 [.tmp 4] hc ?_
 clear hc
 unfold Ev at hm
 refine bg 6 [(0, .BR (AE p0)), (1, .str p1)] fun fr H => ?_
 refine AF 3 ?_
 obtain ⟨h1, e1, A⟩ := A.pu (.cells none 2 [.BR (AE p0)])
 refine BP 2 (.ptr (some (h.size, 0))) e1 H fun fr t H => ?_
 obtain ⟨h2, e2, A⟩ := A.pu (.cells none 2 [.str p1])
 refine BP 3 (.ptr (some (h1.size, 0))) e2 H fun fr t H => ?_
 refine B1 1 [] 2 H fun fr H => AP 2 [(4, .func (.func 211) [] [.ptr (some (h.size, 0)), .ptr (some (h1.size, 0))])] H fun fr H => AY ?_
 obtain ⟨rfl, rfl⟩ := B6 hm
 refine ⟨.inl rfl, .func (.func 211) [] [.ptr (some (h.size, 0)), .ptr (some (h1.size, 0))], rH H, ?_⟩
 replace A : HH g h2 [.obj h.size (.cells none 2 [.BR (AE p0)]), .obj h1.size (.cells none 2 [.str p1])] F := ((A.front 0 rfl).front 1 rfl)
 exact ⟨h.size, h1.size, rfl, A⟩
end
end Go.Av.L
