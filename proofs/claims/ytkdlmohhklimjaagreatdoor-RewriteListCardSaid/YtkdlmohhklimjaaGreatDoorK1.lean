/-
 Models of functions, and that the abstract run tells them. Written by lift2.py.
-/
import Derived.Test.YtkdlmohhklimjaaGreatDoorKCfg
import Derived.Test.YtkdlmohhklimjaaGreatDoorK0
namespace Go.Av.L
open Go.Av Go.Lib
set_option maxRecDepth 10000
set_option linter.unusedVariables false
set_option linter.unusedSimpArgs false
/-! ### boulter/boulterref24.Parse -/
noncomputable def M_boulterref24_Parse_L1 (p0 : List UInt8) (s : Int × Int) : Option ((Int × Int) ⊕ ((Int × Int))) :=
 match s with
 | (x44, x45) => (iteB (decide (x44 < (p0.length : Int))) ((ixS p0 x44).bind fun x49 => some (decide (x49 ≥ (48 : Int)))) (some false) : Option (Bool)).bind fun x48 => (iteB x48 ((ixS p0 x44).bind fun x51 => some (decide (x51 ≤ (57 : Int)))) (some false) : Option (Bool)).bind fun x50 => iteB x50 ((ixS p0 x44).bind fun x52 => some (.inl (IntKind.i64.wrap (x44 + (1 : Int)), mn (IntKind.i64.wrap ((IntKind.i64.wrap ((IntKind.i64.wrap ((10 : Int) * x45)) + (IntKind.i64.wrap x52))) - (48 : Int))) (100000 : Int)))) (some (.inr (x44, x45)))
noncomputable def M_boulterref24_Parse_L0 (p0 : List UInt8) (s : Bool × Bool × Bool × Int × Bool × Bool × Bool × Int × (List UInt8)) : Option ((Bool × Bool × Bool × Int × Bool × Bool × Bool × Int × (List UInt8)) ⊕ ((Bool × Bool × Bool × Int × Bool × Bool × Bool) ⊕ (Bool × Bool × Bool × Int × Bool × Bool × Bool × Int × Int))) :=
 match s with
 | (x13, x14, x15, x16, x17, x18, x19, x20, x21) => iteB (decide (x20 < (p0.length : Int))) ((ixS p0 x20).bind fun x38 => (iteB ((decide (x38 ≥ (49 : Int))) && (decide (x38 ≤ (57 : Int)))) ((loop (M_boulterref24_Parse_L1 p0) (IntKind.i64.wrap (x20 + (1 : Int)), IntKind.i64.wrap ((IntKind.i64.wrap x38) - (48 : Int)))).bind fun (x46, x47) => iteB (decide (x47 > (9999 : Int))) (some (.inr (x20, (11 : Int)))) (some (.inl (x47, x46, (49 : Int))))) (some (.inl (x16, IntKind.i64.wrap (x20 + (1 : Int)), x38))) : Option ((Int × Int × Int) ⊕ (Int × Int))).bind fun o2 => (match o2 with | .inl (x39, x40, x41) => (iteB (x41 == (49 : Int)) (some (.inl (x13, x14, x15, x17, x18, x19, x41))) (iteB (x41 == (103 : Int)) (some (.inl (true, x14, x15, x17, x18, x19, x41))) (iteB (x41 == (105 : Int)) (some (.inl (x13, true, x15, x17, x18, x19, x41))) (iteB (x41 == (120 : Int)) (some (.inl (x13, x14, true, x17, x18, x19, x41))) ((iteB (x41 == (114 : Int)) (some true) (some (x41 == (82 : Int))) : Option ((Bool))).bind fun x62 => iteB x62 (some (.inl (x13, x14, x15, x41 == (114 : Int), x18, x19, (114 : Int)))) ((iteB (x41 == (115 : Int)) (some true) (some (x41 == (83 : Int))) : Option ((Bool))).bind fun x63 => iteB x63 (some (.inl (x13, x14, x15, x17, x41 == (115 : Int), x19, (115 : Int)))) ((iteB (x41 == (104 : Int)) (some true) (some (x41 == (72 : Int))) : Option ((Bool))).bind fun x64 => iteB x64 (some (.inl (x13, x14, x15, x17, x18, x41 == (104 : Int), (104 : Int)))) (some (.inr (x20, (11 : Int)))))))))) : Option ((Bool × Bool × Bool × Bool × Bool × Bool × Int) ⊕ (Int × Int))).bind fun o4 => (match o4 with | .inl (x53, x54, x55, x56, x57, x58, x59) => (M_boulterref13_In x59 x21).bind fun x65 => iteB x65 (some (.inr (.inr (x53, x54, x55, x39, x56, x57, x58, x20, (11 : Int))))) ((toY x59).bind fun x66 => need (decide (x21.length + ([x66] : List UInt8).length ≤ 9223372036854775807)) <| some (.inl (x53, x54, x55, x39, x56, x57, x58, x40, x21 ++ ([x66] : List UInt8)))) | .inr (x60, x61) => some (.inr (.inr (x13, x14, x15, x39, x17, x18, x19, x60, x61)))) | .inr (x42, x43) => some (.inr (.inr (x13, x14, x15, x16, x17, x18, x19, x42, x43))))) (some (.inr (.inl (x13, x14, x15, x16, x17, x18, x19))))
noncomputable def M_boulterref24_Parse (p0 : List UInt8) : Option (S_boulterref24_Expr × Int × Int) :=
 (iteB (decide ((p0.length : Int) < (2 : Int))) (some true) ((ixS p0 (0 : Int)).bind fun x2 => some (x2 != (115 : Int))) : Option (Bool)).bind fun x1 => (iteB x1 (some true) ((ixS p0 (1 : Int)).bind fun x4 => some (x4 == (92 : Int))) : Option (Bool)).bind fun x3 => (iteB x3 (some true) ((ixS p0 (1 : Int)).bind fun x6 => some (x6 == (10 : Int))) : Option (Bool)).bind fun x5 => iteB x5 (some ((⟨([] : List UInt8), ([] : List UInt8), false, false, false, (0 : Int), false, false, false⟩ : S_boulterref24_Expr), (0 : Int), (11 : Int))) ((ixS p0 (1 : Int)).bind fun x7 => (M_boulterref24_part p0 (2 : Int) x7).bind fun (x8, x9) => iteB (decide (x9 < (0 : Int))) (some ((⟨([] : List UInt8), ([] : List UInt8), false, false, false, (0 : Int), false, false, false⟩ : S_boulterref24_Expr), (p0.length : Int), (11 : Int))) ((ixS p0 (1 : Int)).bind fun x10 => (M_boulterref24_part p0 x9 x10).bind fun (x11, x12) => iteB (decide (x12 < (0 : Int))) (some ((⟨([] : List UInt8), ([] : List UInt8), false, false, false, (0 : Int), false, false, false⟩ : S_boulterref24_Expr), (p0.length : Int), (11 : Int))) ((loop (M_boulterref24_Parse_L0 p0) (false, false, false, (1 : Int), true, true, true, x12, ([] : List UInt8))).bind fun o1 => (match o1 with | .inl (x22, x23, x24, x25, x26, x27, x28) => some ((⟨x8, x11, x22, x23, x24, x25, x26, x27, x28⟩ : S_boulterref24_Expr), (0 : Int), (0 : Int)) | .inr (x29, x30, x31, x32, x33, x34, x35, x36, x37) => some ((⟨([] : List UInt8), ([] : List UInt8), false, false, false, (0 : Int), false, false, false⟩ : S_boulterref24_Expr), x36, x37)))))
theorem ok_boulterref24_Parse {g : Gd} {h : AHeap} {F : List Ck} {p0 : List UInt8} {q0 : S_boulterref24_Expr} {q1 : Int} {q2 : Int} {av : List AVal} (hm : M_boulterref24_Parse p0 = some (q0, q1, q2)) (hc : canL (cfg.still 10) av = [.str p0]) (A : HH g h [] F) : ∃ v h', Runs cfg g h 10 av v h' ∧ v = .tuple [.agg (e_S_boulterref24_Expr q0), .int .i64 q1, .int .i64 q2] ∧ HH g h' [] F := by
 refine runsQ1 (n := 156) (rs := [.cell 2 28, .tmp 3, .tmp 4]) (by kernel_rfl) hc (by kernel_rfl) ?_
 clear hc
 unfold M_boulterref24_Parse at hm
 refine start (n := 156) [(0, .str p0)] (by kernel_rfl) (by kernel_rfl) ?_
 intro fr H
 refine aw_seq (by kernel_rfl) ?_
 refine aw_reg (id := 0) (n := 3) [(0, []), (1, []), (2, [])] (by kernel_rfl) (by kernel_rfl) ?_
 obtain ⟨h1, e1⟩ : ∃ x, x = h.push (.cells none 2 [.str ([] : List UInt8), .str ([] : List UInt8), .bool false, .bool false, .bool false, .int .i64 (0 : Int), .bool false, .bool false, .bool false]) := ⟨_, rfl⟩
 replace A := (A.push _).to e1
 refine at_step (v := .ptr (some (h.size, 0))) (h1 := h1) [(0, .str p0), (2, .ptr (some (h.size, 0)))] H (fun fr => by kernel_rfl) (fun fr => .of (s_n' (by kernel_rfl) (congrArg some e1.symm))) ?_
 intro fr t H
 refine at_seg [(1, []), (2, [])] [(0, .str p0), (2, .ptr (some (h.size, 0)))] H (noU_all rfl) (fun fr => by kernel_rfl) ?_
 intro fr H
 refine at_nil ?_
 show AW cfg 10 g (right (bodyC cfg.P 10)) fr h1 _
 refine aw_seq (by kernel_rfl) ?_
 refine aw_reg (id := 1) (n := 3) [(0, []), (1, []), (2, [])] (by kernel_rfl) (by kernel_rfl) ?_
 refine at_seg [(0, [])] [(0, .str p0), (2, .ptr (some (h.size, 0))), (12, .agg [.str ([] : List UInt8), .str ([] : List UInt8), .bool false, .bool false, .bool false, .int .i64 (0 : Int), .bool false, .bool false, .bool false])] H (noU_all rfl) (fun fr => by kernel_rfl) ?_
 intro fr H
 obtain ⟨h2, e2⟩ : ∃ x, x = h1.push (.cells none 2 [.str ([] : List UInt8), .str ([] : List UInt8), .bool false, .bool false, .bool false, .int .i64 (0 : Int), .bool false, .bool false, .bool false]) := ⟨_, rfl⟩
 replace A := (A.push _).to e2
 refine at_step (v := .ptr (some (h1.size, 0))) (h1 := h2) [(0, .str p0), (2, .ptr (some (h.size, 0))), (5, .ptr (some (h1.size, 0))), (12, .agg [.str ([] : List UInt8), .str ([] : List UInt8), .bool false, .bool false, .bool false, .int .i64 (0 : Int), .bool false, .bool false, .bool false])] H (fun fr => by kernel_rfl) (fun fr => .of (s_n' (by kernel_rfl) (congrArg some e2.symm))) ?_
 intro fr t H
 obtain ⟨h3, hx, A1⟩ := A.st 0 rfl (o := 0) (new := [.str ([] : List UInt8), .str ([] : List UInt8), .bool false, .bool false, .bool false, .int .i64 (0 : Int), .bool false, .bool false, .bool false]) (ds := [.str ([] : List UInt8), .str ([] : List UInt8), .bool false, .bool false, .bool false, .int .i64 (0 : Int), .bool false, .bool false, .bool false]) (Nat.le_of_ble_eq_true rfl) rfl rfl
 replace A : HH g h3 [.obj h1.size (.cells none 2 [.str ([] : List UInt8), .str ([] : List UInt8), .bool false, .bool false, .bool false, .int .i64 (0 : Int), .bool false, .bool false, .bool false]), .obj h.size (.cells none 2 [.str ([] : List UInt8), .str ([] : List UInt8), .bool false, .bool false, .bool false, .int .i64 (0 : Int), .bool false, .bool false, .bool false])] F := A1
 refine at_step (v := .tuple []) (h1 := h3) [(0, .str p0), (2, .ptr (some (h.size, 0))), (5, .ptr (some (h1.size, 0)))] H (fun fr => by kernel_rfl) (fun fr => .of (s_stG (by kernel_rfl) (stG_st hx rfl))) ?_
 intro fr t H
 refine at_nil ?_
 show AW cfg 10 g (right (right (bodyC cfg.P 10))) fr h3 _
 refine aw_seq (by kernel_rfl) ?_
 refine aw_seq (by kernel_rfl) ?_
 refine aw_reg (id := 2) (n := 18) [(0, []), (1, []), (2, []), (3, []), (4, []), (5, []), (6, []), (7, []), (8, []), (9, []), (10, []), (11, []), (12, []), (13, []), (14, []), (15, []), (16, []), (17, [])] (by kernel_rfl) (by kernel_rfl) ?_
 refine at_seg [(0, []), (1, []), (2, []), (3, [])] [(0, .str p0), (2, .ptr (some (h.size, 0))), (5, .ptr (some (h1.size, 0))), (16, .bool (decide ((p0.length : Int) < (2 : Int))))] H (noU_all rfl) (fun fr => by kernel_rfl) ?_
 intro fr H
 obtain ⟨x1, ho, hm⟩ := bind_some hm
 refine at_cut [(4, []), (5, []), (6, []), (7, [])] (fun fr' h' => Has fr' 156 [(0, .str p0), (2, .ptr (some (h.size, 0))), (5, .ptr (some (h1.size, 0))), (20, .bool x1)] ∧ HH g h' [.obj h1.size (.cells none 2 [.str ([] : List UInt8), .str ([] : List UInt8), .bool false, .bool false, .bool false, .int .i64 (0 : Int), .bool false, .bool false, .bool false]), .obj h.size (.cells none 2 [.str ([] : List UInt8), .str ([] : List UInt8), .bool false, .bool false, .bool false, .int .i64 (0 : Int), .bool false, .bool false, .bool false])] F) ?_ ?_
 ·rcases iteB_some ho with ⟨hb, hm⟩ | ⟨hb, hm⟩
  ·replace H := H.know 16 hb (by kernel_rfl)
   refine at_seg [(4, []), (5, []), (6, []), (7, [])] [(0, .str p0), (2, .ptr (some (h.size, 0))), (5, .ptr (some (h1.size, 0))), (20, .bool true)] H (noU_all rfl) (fun fr => by kernel_rfl) ?_
   intro fr H
   have e1 := Option.some.inj hm
   subst e1
   exact at_nil ⟨H.less _ (fun fr => by kernel_rfl), A⟩
  ·replace H := H.know 16 hb (by kernel_rfl)
   refine at_seg [(4, [])] [(0, .str p0), (2, .ptr (some (h.size, 0))), (5, .ptr (some (h1.size, 0))), (16, .bool false), (17, .str p0)] H (noU_all rfl) (fun fr => by kernel_rfl) ?_
   intro fr H
   obtain ⟨x2, hx, hm⟩ := bind_some hm
   refine at_step (v := .int .u8 x2) (h1 := h3) [(0, .str p0), (2, .ptr (some (h.size, 0))), (5, .ptr (some (h1.size, 0))), (16, .bool false), (18, .int .u8 x2)] H (fun fr => by kernel_rfl) (fun fr => .of (s_ixS (by kernel_rfl) hx)) ?_
   intro fr t H
   refine at_seg [(6, []), (7, [])] [(0, .str p0), (2, .ptr (some (h.size, 0))), (5, .ptr (some (h1.size, 0))), (20, .bool (x2 != (115 : Int)))] H (noU_all rfl) (fun fr => by kernel_rfl) ?_
   intro fr H
   have e1 := Option.some.inj hm
   subst e1
   exact at_nil ⟨H.less _ (fun fr => by kernel_rfl), A⟩
 ·clear A
  intro t fr h4 hK
  obtain ⟨H, A⟩ := hK
  refine at_seg [(8, [])] [(0, .str p0), (2, .ptr (some (h.size, 0))), (5, .ptr (some (h1.size, 0))), (21, .bool x1)] H (noU_all rfl) (fun fr => by kernel_rfl) ?_
  intro fr H
  obtain ⟨x3, ho, hm⟩ := bind_some hm
  refine at_cut [(9, []), (10, []), (11, []), (12, [])] (fun fr' h' => Has fr' 156 [(0, .str p0), (2, .ptr (some (h.size, 0))), (5, .ptr (some (h1.size, 0))), (25, .bool x3)] ∧ HH g h' [.obj h1.size (.cells none 2 [.str ([] : List UInt8), .str ([] : List UInt8), .bool false, .bool false, .bool false, .int .i64 (0 : Int), .bool false, .bool false, .bool false]), .obj h.size (.cells none 2 [.str ([] : List UInt8), .str ([] : List UInt8), .bool false, .bool false, .bool false, .int .i64 (0 : Int), .bool false, .bool false, .bool false])] F) ?_ ?_
  ·rcases iteB_some ho with ⟨hb, hm⟩ | ⟨hb, hm⟩
   ·replace H := H.know 21 hb (by kernel_rfl)
    refine at_seg [(9, []), (10, []), (11, []), (12, [])] [(0, .str p0), (2, .ptr (some (h.size, 0))), (5, .ptr (some (h1.size, 0))), (25, .bool true)] H (noU_all rfl) (fun fr => by kernel_rfl) ?_
    intro fr H
    have e1 := Option.some.inj hm
    subst e1
    exact at_nil ⟨H.less _ (fun fr => by kernel_rfl), A⟩
   ·replace H := H.know 21 hb (by kernel_rfl)
    refine at_seg [(9, [])] [(0, .str p0), (2, .ptr (some (h.size, 0))), (5, .ptr (some (h1.size, 0))), (21, .bool false), (22, .str p0)] H (noU_all rfl) (fun fr => by kernel_rfl) ?_
    intro fr H
    obtain ⟨x4, hx, hm⟩ := bind_some hm
    refine at_step (v := .int .u8 x4) (h1 := h4) [(0, .str p0), (2, .ptr (some (h.size, 0))), (5, .ptr (some (h1.size, 0))), (21, .bool false), (23, .int .u8 x4)] H (fun fr => by kernel_rfl) (fun fr => .of (s_ixS (by kernel_rfl) hx)) ?_
    intro fr t H
    refine at_seg [(11, []), (12, [])] [(0, .str p0), (2, .ptr (some (h.size, 0))), (5, .ptr (some (h1.size, 0))), (25, .bool (x4 == (92 : Int)))] H (noU_all rfl) (fun fr => by kernel_rfl) ?_
    intro fr H
    have e1 := Option.some.inj hm
    subst e1
    exact at_nil ⟨H.less _ (fun fr => by kernel_rfl), A⟩
  ·clear A
   intro t fr h5 hK
   obtain ⟨H, A⟩ := hK
   refine at_seg [(13, [])] [(0, .str p0), (2, .ptr (some (h.size, 0))), (5, .ptr (some (h1.size, 0))), (26, .bool x3)] H (noU_all rfl) (fun fr => by kernel_rfl) ?_
   intro fr H
   obtain ⟨x5, ho, hm⟩ := bind_some hm
   refine at_cut [(14, []), (15, []), (16, []), (17, [])] (fun fr' h' => Has fr' 156 [(0, .str p0), (2, .ptr (some (h.size, 0))), (5, .ptr (some (h1.size, 0))), (30, .bool x5)] ∧ HH g h' [.obj h1.size (.cells none 2 [.str ([] : List UInt8), .str ([] : List UInt8), .bool false, .bool false, .bool false, .int .i64 (0 : Int), .bool false, .bool false, .bool false]), .obj h.size (.cells none 2 [.str ([] : List UInt8), .str ([] : List UInt8), .bool false, .bool false, .bool false, .int .i64 (0 : Int), .bool false, .bool false, .bool false])] F) ?_ ?_
   ·rcases iteB_some ho with ⟨hb, hm⟩ | ⟨hb, hm⟩
    ·replace H := H.know 26 hb (by kernel_rfl)
     refine at_seg [(14, []), (15, []), (16, []), (17, [])] [(0, .str p0), (2, .ptr (some (h.size, 0))), (5, .ptr (some (h1.size, 0))), (30, .bool true)] H (noU_all rfl) (fun fr => by kernel_rfl) ?_
     intro fr H
     have e1 := Option.some.inj hm
     subst e1
     exact at_nil ⟨H.less _ (fun fr => by kernel_rfl), A⟩
    ·replace H := H.know 26 hb (by kernel_rfl)
     refine at_seg [(14, [])] [(0, .str p0), (2, .ptr (some (h.size, 0))), (5, .ptr (some (h1.size, 0))), (26, .bool false), (27, .str p0)] H (noU_all rfl) (fun fr => by kernel_rfl) ?_
     intro fr H
     obtain ⟨x6, hx, hm⟩ := bind_some hm
     refine at_step (v := .int .u8 x6) (h1 := h5) [(0, .str p0), (2, .ptr (some (h.size, 0))), (5, .ptr (some (h1.size, 0))), (26, .bool false), (28, .int .u8 x6)] H (fun fr => by kernel_rfl) (fun fr => .of (s_ixS (by kernel_rfl) hx)) ?_
     intro fr t H
     refine at_seg [(16, []), (17, [])] [(0, .str p0), (2, .ptr (some (h.size, 0))), (5, .ptr (some (h1.size, 0))), (30, .bool (x6 == (10 : Int)))] H (noU_all rfl) (fun fr => by kernel_rfl) ?_
     intro fr H
     have e1 := Option.some.inj hm
     subst e1
     exact at_nil ⟨H.less _ (fun fr => by kernel_rfl), A⟩
   ·clear A
    intro t fr h6 hK
    obtain ⟨H, A⟩ := hK
    refine at_nil ?_
    show AW cfg 10 g (right (left (right (right (bodyC cfg.P 10))))) fr h6 _
    rcases iteB_some hm with ⟨hb, hm⟩ | ⟨hb, hm⟩
    ·replace H := H.know 30 hb (by kernel_rfl)
     refine aw_true (x := .tmp 30) (by kernel_rfl) H (fun fr => by kernel_rfl) ?_
     refine aw_seq (by kernel_rfl) ?_
     refine aw_reg (id := 3) (n := 4) [(0, []), (1, []), (2, []), (3, [])] (by kernel_rfl) (by kernel_rfl) ?_
     refine at_step (v := .agg [.str ([] : List UInt8), .str ([] : List UInt8), .bool false, .bool false, .bool false, .int .i64 (0 : Int), .bool false, .bool false, .bool false]) (h1 := h6) [(2, .ptr (some (h.size, 0))), (31, .agg [.str ([] : List UInt8), .str ([] : List UInt8), .bool false, .bool false, .bool false, .int .i64 (0 : Int), .bool false, .bool false, .bool false])] H (fun fr => by kernel_rfl) (fun fr => .of (s_ldA (by kernel_rfl) (A.ldA 0 rfl (o := 0) (n := 9) ⟨Nat.le_of_ble_eq_true rfl, rfl⟩))) ?_
     intro fr t H
     obtain ⟨h7, hx, A1⟩ := A.st 1 rfl (o := 0) (new := [.str ([] : List UInt8), .str ([] : List UInt8), .bool false, .bool false, .bool false, .int .i64 (0 : Int), .bool false, .bool false, .bool false]) (ds := [.str ([] : List UInt8), .str ([] : List UInt8), .bool false, .bool false, .bool false, .int .i64 (0 : Int), .bool false, .bool false, .bool false]) (Nat.le_of_ble_eq_true rfl) rfl rfl
     replace A : HH g h7 [.obj h1.size (.cells none 2 [.str ([] : List UInt8), .str ([] : List UInt8), .bool false, .bool false, .bool false, .int .i64 (0 : Int), .bool false, .bool false, .bool false]), .obj h.size (.cells none 2 [.str ([] : List UInt8), .str ([] : List UInt8), .bool false, .bool false, .bool false, .int .i64 (0 : Int), .bool false, .bool false, .bool false])] F := A1
     refine at_step (v := .tuple []) (h1 := h7) [(2, .ptr (some (h.size, 0)))] H (fun fr => by kernel_rfl) (fun fr => .of (s_stG (by kernel_rfl) (stG_st hx rfl))) ?_
     intro fr t H
     refine at_seg [(2, []), (3, [])] [(2, .ptr (some (h.size, 0))), (3, .int .i64 (0 : Int)), (4, .int .i64 (11 : Int))] H (noU_all rfl) (fun fr => by kernel_rfl) ?_
     intro fr H
     refine at_nil ?_
     show AW cfg 10 g (right (left (right (left (right (right (bodyC cfg.P 10))))))) fr h7 _
     refine aw_ret (by kernel_rfl) ?_
     have e0 := Option.some.inj hm
     obtain ⟨y0, z0⟩ := Prod.mk.inj e0
     obtain ⟨y1, z1⟩ := Prod.mk.inj z0
     subst y0
     subst y1
     subst z1
     refine ⟨.inl rfl, .tuple [.agg [.str ([] : List UInt8), .str ([] : List UInt8), .bool false, .bool false, .bool false, .int .i64 (0 : Int), .bool false, .bool false, .bool false], .int .i64 (0 : Int), .int .i64 (11 : Int)], resL_many (.cell (resT H (fun fr => by kernel_rfl)) (load_ldA (by kernel_rfl) (by kernel_rfl) (A.ldA 1 rfl (o := 0) (n := 9) ⟨Nat.le_of_ble_eq_true rfl, rfl⟩)) (.tmp (resT H (fun fr => by kernel_rfl)) (.tmp (resT H (fun fr => by kernel_rfl)) .nil))), ?_⟩
     replace A : HH g h7 [] F := (HH.dropF A 0)
     exact ⟨rfl, A⟩
    ·replace H := H.know 30 hb (by kernel_rfl)
     refine aw_false (x := .tmp 30) (by kernel_rfl) H (fun fr => by kernel_rfl) ?_
     refine aw_skip (by kernel_rfl) ?_
     show AW cfg 10 g (right (right (right (bodyC cfg.P 10)))) fr h6 _
     refine aw_seq (by kernel_rfl) ?_
     refine aw_reg (id := 4) (n := 3) [(0, []), (1, []), (2, [])] (by kernel_rfl) (by kernel_rfl) ?_
     refine at_seg [(0, [])] [(0, .str p0), (2, .ptr (some (h.size, 0))), (5, .ptr (some (h1.size, 0))), (32, .agg [.str ([] : List UInt8), .str ([] : List UInt8), .bool false, .bool false, .bool false, .int .i64 (1 : Int), .bool true, .bool true, .bool true])] H (noU_all rfl) (fun fr => by kernel_rfl) ?_
     intro fr H
     obtain ⟨h8, e3⟩ : ∃ x, x = h6.push (.cells none 2 [.str ([] : List UInt8), .str ([] : List UInt8), .bool false, .bool false, .bool false, .int .i64 (0 : Int), .bool false, .bool false, .bool false]) := ⟨_, rfl⟩
     replace A := (A.push _).to e3
     refine at_step (v := .ptr (some (h6.size, 0))) (h1 := h8) [(0, .str p0), (2, .ptr (some (h.size, 0))), (5, .ptr (some (h1.size, 0))), (6, .ptr (some (h6.size, 0))), (32, .agg [.str ([] : List UInt8), .str ([] : List UInt8), .bool false, .bool false, .bool false, .int .i64 (1 : Int), .bool true, .bool true, .bool true])] H (fun fr => by kernel_rfl) (fun fr => .of (s_n' (by kernel_rfl) (congrArg some e3.symm))) ?_
     intro fr t H
     obtain ⟨h9, hx, A1⟩ := A.st 0 rfl (o := 0) (new := [.str ([] : List UInt8), .str ([] : List UInt8), .bool false, .bool false, .bool false, .int .i64 (1 : Int), .bool true, .bool true, .bool true]) (ds := [.str ([] : List UInt8), .str ([] : List UInt8), .bool false, .bool false, .bool false, .int .i64 (1 : Int), .bool true, .bool true, .bool true]) (Nat.le_of_ble_eq_true rfl) rfl rfl
     replace A : HH g h9 [.obj h6.size (.cells none 2 [.str ([] : List UInt8), .str ([] : List UInt8), .bool false, .bool false, .bool false, .int .i64 (1 : Int), .bool true, .bool true, .bool true]), .obj h1.size (.cells none 2 [.str ([] : List UInt8), .str ([] : List UInt8), .bool false, .bool false, .bool false, .int .i64 (0 : Int), .bool false, .bool false, .bool false]), .obj h.size (.cells none 2 [.str ([] : List UInt8), .str ([] : List UInt8), .bool false, .bool false, .bool false, .int .i64 (0 : Int), .bool false, .bool false, .bool false])] F := A1
     refine at_step (v := .tuple []) (h1 := h9) [(0, .str p0), (2, .ptr (some (h.size, 0))), (5, .ptr (some (h1.size, 0))), (6, .ptr (some (h6.size, 0)))] H (fun fr => by kernel_rfl) (fun fr => .of (s_stG (by kernel_rfl) (stG_st hx rfl))) ?_
     intro fr t H
     refine at_nil ?_
     show AW cfg 10 g (right (right (right (right (bodyC cfg.P 10))))) fr h9 _
     refine aw_seq (by kernel_rfl) ?_
     refine aw_reg (id := 5) (n := 1) [(0, [])] (by kernel_rfl) (by kernel_rfl) ?_
     refine at_seg [(0, [])] [(0, .str p0), (2, .ptr (some (h.size, 0))), (5, .ptr (some (h1.size, 0))), (6, .ptr (some (h6.size, 0))), (7, .int .i64 (2 : Int))] H (noU_all rfl) (fun fr => by kernel_rfl) ?_
     intro fr H
     refine at_nil ?_
     show AW cfg 10 g (right (right (right (right (right (bodyC cfg.P 10)))))) fr h9 _
     refine aw_seq (by kernel_rfl) ?_
     refine aw_reg (id := 6) (n := 11) [(0, []), (1, []), (2, []), (3, []), (4, []), (5, []), (6, []), (7, []), (8, []), (9, []), (10, [])] (by kernel_rfl) (by kernel_rfl) ?_
     refine at_seg [(0, []), (1, []), (2, [])] [(0, .str p0), (2, .ptr (some (h.size, 0))), (5, .ptr (some (h1.size, 0))), (6, .ptr (some (h6.size, 0))), (34, .str p0), (35, .int .i64 (2 : Int)), (36, .str p0)] H (noU_all rfl) (fun fr => by kernel_rfl) ?_
     intro fr H
     obtain ⟨x7, hx, hm⟩ := bind_some hm
     refine at_step (v := .int .u8 x7) (h1 := h9) [(0, .str p0), (2, .ptr (some (h.size, 0))), (5, .ptr (some (h1.size, 0))), (6, .ptr (some (h6.size, 0))), (34, .str p0), (35, .int .i64 (2 : Int)), (37, .int .u8 x7)] H (fun fr => by kernel_rfl) (fun fr => .of (s_ixS (by kernel_rfl) hx)) ?_
     intro fr t H
     have A1 := A.cut 0
     obtain ⟨⟨x8, x9⟩, hx, hm⟩ := bind_some hm
     obtain ⟨v1, h10, hr, rfl, A1⟩ := ok_boulterref24_part (av := [.str p0, .int .i64 (2 : Int), .int .u8 x7]) hx (by kernel_rfl) A1
     replace A : HH g h10 [.obj h6.size (.cells none 2 [.str ([] : List UInt8), .str ([] : List UInt8), .bool false, .bool false, .bool false, .int .i64 (1 : Int), .bool true, .bool true, .bool true]), .obj h1.size (.cells none 2 [.str ([] : List UInt8), .str ([] : List UInt8), .bool false, .bool false, .bool false, .int .i64 (0 : Int), .bool false, .bool false, .bool false]), .obj h.size (.cells none 2 [.str ([] : List UInt8), .str ([] : List UInt8), .bool false, .bool false, .bool false, .int .i64 (0 : Int), .bool false, .bool false, .bool false])] F := A.glue0 (n := 0) A1
     refine at_step (v := .tuple [.str x8, .int .i64 x9]) (h1 := h10) [(0, .str p0), (2, .ptr (some (h.size, 0))), (5, .ptr (some (h1.size, 0))), (6, .ptr (some (h6.size, 0))), (38, .tuple [.str x8, .int .i64 x9])] H (fun fr => by kernel_rfl) (fun fr => Steps.call (by kernel_rfl) hr) ?_
     intro fr t H
     refine at_seg [(5, []), (6, []), (7, []), (8, [])] [(0, .str p0), (2, .ptr (some (h.size, 0))), (5, .ptr (some (h1.size, 0))), (6, .ptr (some (h6.size, 0))), (39, .str x8), (40, .int .i64 x9), (41, .ptr (some (h6.size, 0)))] H (noU_all rfl) (fun fr => by kernel_rfl) ?_
     intro fr H
     obtain ⟨h11, hx, A1⟩ := A.st 0 rfl (o := 0) (new := [.str x8]) (ds := [.str x8, .str ([] : List UInt8), .bool false, .bool false, .bool false, .int .i64 (1 : Int), .bool true, .bool true, .bool true]) (Nat.le_of_ble_eq_true rfl) rfl rfl
     replace A : HH g h11 [.obj h6.size (.cells none 2 [.str x8, .str ([] : List UInt8), .bool false, .bool false, .bool false, .int .i64 (1 : Int), .bool true, .bool true, .bool true]), .obj h1.size (.cells none 2 [.str ([] : List UInt8), .str ([] : List UInt8), .bool false, .bool false, .bool false, .int .i64 (0 : Int), .bool false, .bool false, .bool false]), .obj h.size (.cells none 2 [.str ([] : List UInt8), .str ([] : List UInt8), .bool false, .bool false, .bool false, .int .i64 (0 : Int), .bool false, .bool false, .bool false])] F := A1
     refine at_step (v := .tuple []) (h1 := h11) [(0, .str p0), (2, .ptr (some (h.size, 0))), (5, .ptr (some (h1.size, 0))), (6, .ptr (some (h6.size, 0))), (40, .int .i64 x9)] H (fun fr => by kernel_rfl) (fun fr => .of (s_st (by kernel_rfl) rfl hx)) ?_
     intro fr t H
     refine at_seg [(10, [])] [(0, .str p0), (2, .ptr (some (h.size, 0))), (5, .ptr (some (h1.size, 0))), (6, .ptr (some (h6.size, 0))), (7, .int .i64 x9)] H (noU_all rfl) (fun fr => by kernel_rfl) ?_
     intro fr H
     refine at_nil ?_
     show AW cfg 10 g (right (right (right (right (right (right (bodyC cfg.P 10))))))) fr h11 _
     refine aw_seq (by kernel_rfl) ?_
     refine aw_seq (by kernel_rfl) ?_
     refine aw_reg (id := 7) (n := 2) [(0, []), (1, [])] (by kernel_rfl) (by kernel_rfl) ?_
     refine at_seg [(0, []), (1, [])] [(0, .str p0), (2, .ptr (some (h.size, 0))), (5, .ptr (some (h1.size, 0))), (6, .ptr (some (h6.size, 0))), (7, .int .i64 x9), (43, .bool (decide (x9 < (0 : Int))))] H (noU_all rfl) (fun fr => by kernel_rfl) ?_
     intro fr H
     refine at_nil ?_
     show AW cfg 10 g (right (left (right (right (right (right (right (right (bodyC cfg.P 10))))))))) fr h11 _
     rcases iteB_some hm with ⟨hb, hm⟩ | ⟨hb, hm⟩
     ·replace H := H.know 43 hb (by kernel_rfl)
      refine aw_true (x := .tmp 43) (by kernel_rfl) H (fun fr => by kernel_rfl) ?_
      refine aw_seq (by kernel_rfl) ?_
      refine aw_reg (id := 8) (n := 6) [(0, []), (1, []), (2, []), (3, []), (4, []), (5, [])] (by kernel_rfl) (by kernel_rfl) ?_
      refine at_step (v := .agg [.str ([] : List UInt8), .str ([] : List UInt8), .bool false, .bool false, .bool false, .int .i64 (0 : Int), .bool false, .bool false, .bool false]) (h1 := h11) [(0, .str p0), (2, .ptr (some (h.size, 0))), (44, .agg [.str ([] : List UInt8), .str ([] : List UInt8), .bool false, .bool false, .bool false, .int .i64 (0 : Int), .bool false, .bool false, .bool false])] H (fun fr => by kernel_rfl) (fun fr => .of (s_ldA (by kernel_rfl) (A.ldA 1 rfl (o := 0) (n := 9) ⟨Nat.le_of_ble_eq_true rfl, rfl⟩))) ?_
      intro fr t H
      refine at_seg [(1, []), (2, [])] [(2, .ptr (some (h.size, 0))), (44, .agg [.str ([] : List UInt8), .str ([] : List UInt8), .bool false, .bool false, .bool false, .int .i64 (0 : Int), .bool false, .bool false, .bool false]), (46, .int .i64 (p0.length : Int))] H (noU_all rfl) (fun fr => by kernel_rfl) ?_
      intro fr H
      obtain ⟨h12, hx, A1⟩ := A.st 2 rfl (o := 0) (new := [.str ([] : List UInt8), .str ([] : List UInt8), .bool false, .bool false, .bool false, .int .i64 (0 : Int), .bool false, .bool false, .bool false]) (ds := [.str ([] : List UInt8), .str ([] : List UInt8), .bool false, .bool false, .bool false, .int .i64 (0 : Int), .bool false, .bool false, .bool false]) (Nat.le_of_ble_eq_true rfl) rfl rfl
      replace A : HH g h12 [.obj h6.size (.cells none 2 [.str x8, .str ([] : List UInt8), .bool false, .bool false, .bool false, .int .i64 (1 : Int), .bool true, .bool true, .bool true]), .obj h1.size (.cells none 2 [.str ([] : List UInt8), .str ([] : List UInt8), .bool false, .bool false, .bool false, .int .i64 (0 : Int), .bool false, .bool false, .bool false]), .obj h.size (.cells none 2 [.str ([] : List UInt8), .str ([] : List UInt8), .bool false, .bool false, .bool false, .int .i64 (0 : Int), .bool false, .bool false, .bool false])] F := A1
      refine at_step (v := .tuple []) (h1 := h12) [(2, .ptr (some (h.size, 0))), (46, .int .i64 (p0.length : Int))] H (fun fr => by kernel_rfl) (fun fr => .of (s_stG (by kernel_rfl) (stG_st hx rfl))) ?_
      intro fr t H
      refine at_seg [(4, []), (5, [])] [(2, .ptr (some (h.size, 0))), (3, .int .i64 (p0.length : Int)), (4, .int .i64 (11 : Int))] H (noU_all rfl) (fun fr => by kernel_rfl) ?_
      intro fr H
      refine at_nil ?_
      show AW cfg 10 g (right (left (right (left (right (right (right (right (right (right (bodyC cfg.P 10))))))))))) fr h12 _
      refine aw_ret (by kernel_rfl) ?_
      have e0 := Option.some.inj hm
      obtain ⟨y0, z0⟩ := Prod.mk.inj e0
      obtain ⟨y1, z1⟩ := Prod.mk.inj z0
      subst y0
      subst y1
      subst z1
      refine ⟨.inl rfl, .tuple [.agg [.str ([] : List UInt8), .str ([] : List UInt8), .bool false, .bool false, .bool false, .int .i64 (0 : Int), .bool false, .bool false, .bool false], .int .i64 (p0.length : Int), .int .i64 (11 : Int)], resL_many (.cell (resT H (fun fr => by kernel_rfl)) (load_ldA (by kernel_rfl) (by kernel_rfl) (A.ldA 2 rfl (o := 0) (n := 9) ⟨Nat.le_of_ble_eq_true rfl, rfl⟩)) (.tmp (resT H (fun fr => by kernel_rfl)) (.tmp (resT H (fun fr => by kernel_rfl)) .nil))), ?_⟩
      replace A : HH g h12 [] F := (HH.dropF A 0)
      exact ⟨rfl, A⟩
     ·replace H := H.know 43 hb (by kernel_rfl)
      refine aw_false (x := .tmp 43) (by kernel_rfl) H (fun fr => by kernel_rfl) ?_
      refine aw_skip (by kernel_rfl) ?_
      show AW cfg 10 g (right (right (right (right (right (right (right (bodyC cfg.P 10)))))))) fr h11 _
      refine aw_seq (by kernel_rfl) ?_
      refine aw_reg (id := 9) (n := 11) [(0, []), (1, []), (2, []), (3, []), (4, []), (5, []), (6, []), (7, []), (8, []), (9, []), (10, [])] (by kernel_rfl) (by kernel_rfl) ?_
      refine at_seg [(0, []), (1, []), (2, [])] [(0, .str p0), (2, .ptr (some (h.size, 0))), (5, .ptr (some (h1.size, 0))), (6, .ptr (some (h6.size, 0))), (48, .str p0), (49, .int .i64 x9), (50, .str p0)] H (noU_all rfl) (fun fr => by kernel_rfl) ?_
      intro fr H
      obtain ⟨x10, hx, hm⟩ := bind_some hm
      refine at_step (v := .int .u8 x10) (h1 := h11) [(0, .str p0), (2, .ptr (some (h.size, 0))), (5, .ptr (some (h1.size, 0))), (6, .ptr (some (h6.size, 0))), (48, .str p0), (49, .int .i64 x9), (51, .int .u8 x10)] H (fun fr => by kernel_rfl) (fun fr => .of (s_ixS (by kernel_rfl) hx)) ?_
      intro fr t H
      have A1 := A.cut 0
      obtain ⟨⟨x11, x12⟩, hx, hm⟩ := bind_some hm
      obtain ⟨v1, h13, hr, rfl, A1⟩ := ok_boulterref24_part (av := [.str p0, .int .i64 x9, .int .u8 x10]) hx (by kernel_rfl) A1
      replace A : HH g h13 [.obj h6.size (.cells none 2 [.str x8, .str ([] : List UInt8), .bool false, .bool false, .bool false, .int .i64 (1 : Int), .bool true, .bool true, .bool true]), .obj h1.size (.cells none 2 [.str ([] : List UInt8), .str ([] : List UInt8), .bool false, .bool false, .bool false, .int .i64 (0 : Int), .bool false, .bool false, .bool false]), .obj h.size (.cells none 2 [.str ([] : List UInt8), .str ([] : List UInt8), .bool false, .bool false, .bool false, .int .i64 (0 : Int), .bool false, .bool false, .bool false])] F := A.glue0 (n := 0) A1
      refine at_step (v := .tuple [.str x11, .int .i64 x12]) (h1 := h13) [(0, .str p0), (2, .ptr (some (h.size, 0))), (5, .ptr (some (h1.size, 0))), (6, .ptr (some (h6.size, 0))), (52, .tuple [.str x11, .int .i64 x12])] H (fun fr => by kernel_rfl) (fun fr => Steps.call (by kernel_rfl) hr) ?_
      intro fr t H
      refine at_seg [(5, []), (6, []), (7, []), (8, [])] [(0, .str p0), (2, .ptr (some (h.size, 0))), (5, .ptr (some (h1.size, 0))), (6, .ptr (some (h6.size, 0))), (53, .str x11), (54, .int .i64 x12), (55, .ptr (some (h6.size, 1)))] H (noU_all rfl) (fun fr => by kernel_rfl) ?_
      intro fr H
      obtain ⟨h14, hx, A1⟩ := A.st 0 rfl (o := 1) (new := [.str x11]) (ds := [.str x8, .str x11, .bool false, .bool false, .bool false, .int .i64 (1 : Int), .bool true, .bool true, .bool true]) (Nat.le_of_ble_eq_true rfl) rfl rfl
      replace A : HH g h14 [.obj h6.size (.cells none 2 [.str x8, .str x11, .bool false, .bool false, .bool false, .int .i64 (1 : Int), .bool true, .bool true, .bool true]), .obj h1.size (.cells none 2 [.str ([] : List UInt8), .str ([] : List UInt8), .bool false, .bool false, .bool false, .int .i64 (0 : Int), .bool false, .bool false, .bool false]), .obj h.size (.cells none 2 [.str ([] : List UInt8), .str ([] : List UInt8), .bool false, .bool false, .bool false, .int .i64 (0 : Int), .bool false, .bool false, .bool false])] F := A1
      refine at_step (v := .tuple []) (h1 := h14) [(0, .str p0), (2, .ptr (some (h.size, 0))), (5, .ptr (some (h1.size, 0))), (6, .ptr (some (h6.size, 0))), (54, .int .i64 x12)] H (fun fr => by kernel_rfl) (fun fr => .of (s_st (by kernel_rfl) rfl hx)) ?_
      intro fr t H
      refine at_seg [(10, [])] [(0, .str p0), (2, .ptr (some (h.size, 0))), (5, .ptr (some (h1.size, 0))), (6, .ptr (some (h6.size, 0))), (7, .int .i64 x12)] H (noU_all rfl) (fun fr => by kernel_rfl) ?_
      intro fr H
      refine at_nil ?_
      show AW cfg 10 g (right (right (right (right (right (right (right (right (bodyC cfg.P 10))))))))) fr h14 _
      refine aw_seq (by kernel_rfl) ?_
      refine aw_seq (by kernel_rfl) ?_
      refine aw_reg (id := 10) (n := 2) [(0, []), (1, [])] (by kernel_rfl) (by kernel_rfl) ?_
      refine at_seg [(0, []), (1, [])] [(0, .str p0), (2, .ptr (some (h.size, 0))), (5, .ptr (some (h1.size, 0))), (6, .ptr (some (h6.size, 0))), (7, .int .i64 x12), (57, .bool (decide (x12 < (0 : Int))))] H (noU_all rfl) (fun fr => by kernel_rfl) ?_
      intro fr H
      refine at_nil ?_
      show AW cfg 10 g (right (left (right (right (right (right (right (right (right (right (bodyC cfg.P 10))))))))))) fr h14 _
      rcases iteB_some hm with ⟨hb, hm⟩ | ⟨hb, hm⟩
      ·replace H := H.know 57 hb (by kernel_rfl)
       refine aw_true (x := .tmp 57) (by kernel_rfl) H (fun fr => by kernel_rfl) ?_
       refine aw_seq (by kernel_rfl) ?_
       refine aw_reg (id := 11) (n := 6) [(0, []), (1, []), (2, []), (3, []), (4, []), (5, [])] (by kernel_rfl) (by kernel_rfl) ?_
       refine at_step (v := .agg [.str ([] : List UInt8), .str ([] : List UInt8), .bool false, .bool false, .bool false, .int .i64 (0 : Int), .bool false, .bool false, .bool false]) (h1 := h14) [(0, .str p0), (2, .ptr (some (h.size, 0))), (58, .agg [.str ([] : List UInt8), .str ([] : List UInt8), .bool false, .bool false, .bool false, .int .i64 (0 : Int), .bool false, .bool false, .bool false])] H (fun fr => by kernel_rfl) (fun fr => .of (s_ldA (by kernel_rfl) (A.ldA 1 rfl (o := 0) (n := 9) ⟨Nat.le_of_ble_eq_true rfl, rfl⟩))) ?_
       intro fr t H
       refine at_seg [(1, []), (2, [])] [(2, .ptr (some (h.size, 0))), (58, .agg [.str ([] : List UInt8), .str ([] : List UInt8), .bool false, .bool false, .bool false, .int .i64 (0 : Int), .bool false, .bool false, .bool false]), (60, .int .i64 (p0.length : Int))] H (noU_all rfl) (fun fr => by kernel_rfl) ?_
       intro fr H
       obtain ⟨h15, hx, A1⟩ := A.st 2 rfl (o := 0) (new := [.str ([] : List UInt8), .str ([] : List UInt8), .bool false, .bool false, .bool false, .int .i64 (0 : Int), .bool false, .bool false, .bool false]) (ds := [.str ([] : List UInt8), .str ([] : List UInt8), .bool false, .bool false, .bool false, .int .i64 (0 : Int), .bool false, .bool false, .bool false]) (Nat.le_of_ble_eq_true rfl) rfl rfl
       replace A : HH g h15 [.obj h6.size (.cells none 2 [.str x8, .str x11, .bool false, .bool false, .bool false, .int .i64 (1 : Int), .bool true, .bool true, .bool true]), .obj h1.size (.cells none 2 [.str ([] : List UInt8), .str ([] : List UInt8), .bool false, .bool false, .bool false, .int .i64 (0 : Int), .bool false, .bool false, .bool false]), .obj h.size (.cells none 2 [.str ([] : List UInt8), .str ([] : List UInt8), .bool false, .bool false, .bool false, .int .i64 (0 : Int), .bool false, .bool false, .bool false])] F := A1
       refine at_step (v := .tuple []) (h1 := h15) [(2, .ptr (some (h.size, 0))), (60, .int .i64 (p0.length : Int))] H (fun fr => by kernel_rfl) (fun fr => .of (s_stG (by kernel_rfl) (stG_st hx rfl))) ?_
       intro fr t H
       refine at_seg [(4, []), (5, [])] [(2, .ptr (some (h.size, 0))), (3, .int .i64 (p0.length : Int)), (4, .int .i64 (11 : Int))] H (noU_all rfl) (fun fr => by kernel_rfl) ?_
       intro fr H
       refine at_nil ?_
       show AW cfg 10 g (right (left (right (left (right (right (right (right (right (right (right (right (bodyC cfg.P 10))))))))))))) fr h15 _
       refine aw_ret (by kernel_rfl) ?_
       have e0 := Option.some.inj hm
       obtain ⟨y0, z0⟩ := Prod.mk.inj e0
       obtain ⟨y1, z1⟩ := Prod.mk.inj z0
       subst y0
       subst y1
       subst z1
       refine ⟨.inl rfl, .tuple [.agg [.str ([] : List UInt8), .str ([] : List UInt8), .bool false, .bool false, .bool false, .int .i64 (0 : Int), .bool false, .bool false, .bool false], .int .i64 (p0.length : Int), .int .i64 (11 : Int)], resL_many (.cell (resT H (fun fr => by kernel_rfl)) (load_ldA (by kernel_rfl) (by kernel_rfl) (A.ldA 2 rfl (o := 0) (n := 9) ⟨Nat.le_of_ble_eq_true rfl, rfl⟩)) (.tmp (resT H (fun fr => by kernel_rfl)) (.tmp (resT H (fun fr => by kernel_rfl)) .nil))), ?_⟩
       replace A : HH g h15 [] F := (HH.dropF A 0)
       exact ⟨rfl, A⟩
      ·replace H := H.know 57 hb (by kernel_rfl)
       refine aw_false (x := .tmp 57) (by kernel_rfl) H (fun fr => by kernel_rfl) ?_
       refine aw_skip (by kernel_rfl) ?_
       show AW cfg 10 g (right (right (right (right (right (right (right (right (right (bodyC cfg.P 10)))))))))) fr h14 _
       refine aw_seq (by kernel_rfl) ?_
       refine aw_reg (id := 12) (n := 1) [(0, [])] (by kernel_rfl) (by kernel_rfl) ?_
       refine at_seg [(0, [])] [(0, .str p0), (2, .ptr (some (h.size, 0))), (5, .ptr (some (h1.size, 0))), (6, .ptr (some (h6.size, 0))), (7, .int .i64 x12), (8, .str ([] : List UInt8))] H (noU_all rfl) (fun fr => by kernel_rfl) ?_
       intro fr H
       refine at_nil ?_
       show AW cfg 10 g (right (right (right (right (right (right (right (right (right (right (bodyC cfg.P 10))))))))))) fr h14 _
       refine aw_seq (by kernel_rfl) ?_
       refine aw_block (id := 0) (by kernel_rfl) ?_
       obtain ⟨o1, ho, hm⟩ := bind_some hm
       refine aw_mono (Q' := fun e fr' h' => (∃ (x22 : Bool) (x23 : Bool) (x24 : Bool) (x25 : Int) (x26 : Bool) (x27 : Bool) (x28 : Bool), e = .exit 0 ∧ .inl (x22, x23, x24, x25, x26, x27, x28) = o1 ∧ Has fr' 156 [(2, .ptr (some (h.size, 0))), (6, .ptr (some (h6.size, 0)))] ∧ HH g h' [.obj h6.size (.cells none 2 [.str x8, .str x11, .bool x22, .bool x23, .bool x24, .int .i64 x25, .bool x26, .bool x27, .bool x28]), .obj h1.size (.cells none 2 [.str ([] : List UInt8), .str ([] : List UInt8), .bool false, .bool false, .bool false, .int .i64 (0 : Int), .bool false, .bool false, .bool false]), .obj h.size (.cells none 2 [.str ([] : List UInt8), .str ([] : List UInt8), .bool false, .bool false, .bool false, .int .i64 (0 : Int), .bool false, .bool false, .bool false])] F) ∨ (∃ (x29 : Bool) (x30 : Bool) (x31 : Bool) (x32 : Int) (x33 : Bool) (x34 : Bool) (x35 : Bool) (x36 : Int) (x37 : Int), e = .ret ∧ .inr (x29, x30, x31, x32, x33, x34, x35, x36, x37) = o1 ∧ Has fr' 156 [(2, .ptr (some (h.size, 0))), (3, .int .i64 x36), (4, .int .i64 x37)] ∧ HH g h' [.obj h6.size (.cells none 2 [.str x8, .str x11, .bool x29, .bool x30, .bool x31, .int .i64 x32, .bool x33, .bool x34, .bool x35]), .obj h1.size (.cells none 2 [.str ([] : List UInt8), .str ([] : List UInt8), .bool false, .bool false, .bool false, .int .i64 (0 : Int), .bool false, .bool false, .bool false]), .obj h.size (.cells none 2 [.str ([] : List UInt8), .str ([] : List UInt8), .bool false, .bool false, .bool false, .int .i64 (0 : Int), .bool false, .bool false, .bool false])] F) ∨ False) ?_ ?_
       ·refine aw_loop (by kernel_rfl) (fun (s : Bool × Bool × Bool × Int × Bool × Bool × Bool × Int × (List UInt8)) fr' h' => ∃ (x13 : Bool) (x14 : Bool) (x15 : Bool) (x16 : Int) (x17 : Bool) (x18 : Bool) (x19 : Bool) (x20 : Int) (x21 : List UInt8), (x13, x14, x15, x16, x17, x18, x19, x20, x21) = s ∧ Has fr' 156 [(0, .str p0), (2, .ptr (some (h.size, 0))), (5, .ptr (some (h1.size, 0))), (6, .ptr (some (h6.size, 0))), (7, .int .i64 x20), (8, .str x21)] ∧ HH g h' [.obj h6.size (.cells none 2 [.str x8, .str x11, .bool x13, .bool x14, .bool x15, .int .i64 x16, .bool x17, .bool x18, .bool x19]), .obj h1.size (.cells none 2 [.str ([] : List UInt8), .str ([] : List UInt8), .bool false, .bool false, .bool false, .int .i64 (0 : Int), .bool false, .bool false, .bool false]), .obj h.size (.cells none 2 [.str ([] : List UInt8), .str ([] : List UInt8), .bool false, .bool false, .bool false, .int .i64 (0 : Int), .bool false, .bool false, .bool false])] F) ho ⟨false, false, false, (1 : Int), true, true, true, x12, ([] : List UInt8), rfl, H.less _ (fun fr => by kernel_rfl), A⟩ ?_
        clear ho hm H A
        intro s q fr h16 hI hm
        obtain ⟨x13, x14, x15, x16, x17, x18, x19, x20, x21, rfl, H, A⟩ := hI
        unfold M_boulterref24_Parse_L0 at hm
        refine aw_seq (by kernel_rfl) ?_
        refine aw_seq (by kernel_rfl) ?_
        refine aw_reg (id := 13) (n := 4) [(0, []), (1, []), (2, []), (3, [])] (by kernel_rfl) (by kernel_rfl) ?_
        refine at_seg [(0, []), (1, []), (2, []), (3, [])] [(0, .str p0), (2, .ptr (some (h.size, 0))), (5, .ptr (some (h1.size, 0))), (6, .ptr (some (h6.size, 0))), (7, .int .i64 x20), (8, .str x21), (64, .bool (decide (x20 < (p0.length : Int))))] H (noU_all rfl) (fun fr => by kernel_rfl) ?_
        intro fr H
        refine at_nil ?_
        show AW cfg 10 g (right (left (left (left (left (right (right (right (right (right (right (right (right (right (right (bodyC cfg.P 10)))))))))))))))) fr h16 _
        rcases iteB_some hm with ⟨hb, hm⟩ | ⟨hb, hm⟩
        ·replace H := H.know 64 hb (by kernel_rfl)
         refine aw_true (x := .tmp 64) (by kernel_rfl) H (fun fr => by kernel_rfl) ?_
         refine aw_skip (by kernel_rfl) ?_
         show AW cfg 10 g (right (left (left (left (right (right (right (right (right (right (right (right (right (right (bodyC cfg.P 10))))))))))))))) fr h16 _
         refine aw_block (id := 1) (by kernel_rfl) ?_
         refine aw_seq (by kernel_rfl) ?_
         refine aw_reg (id := 14) (n := 2) [(0, []), (1, [])] (by kernel_rfl) (by kernel_rfl) ?_
         refine at_seg [(0, []), (1, [])] [(0, .str p0), (2, .ptr (some (h.size, 0))), (5, .ptr (some (h1.size, 0))), (6, .ptr (some (h6.size, 0))), (7, .int .i64 x20), (8, .str x21), (9, .int .i64 x20)] H (noU_all rfl) (fun fr => by kernel_rfl) ?_
         intro fr H
         refine at_nil ?_
         show AW cfg 10 g (right (left (right (left (left (left (right (right (right (right (right (right (right (right (right (right (bodyC cfg.P 10))))))))))))))))) fr h16 _
         refine aw_seq (by kernel_rfl) ?_
         refine aw_reg (id := 15) (n := 4) [(0, []), (1, []), (2, []), (3, [])] (by kernel_rfl) (by kernel_rfl) ?_
         refine at_seg [(0, []), (1, [])] [(0, .str p0), (2, .ptr (some (h.size, 0))), (5, .ptr (some (h1.size, 0))), (6, .ptr (some (h6.size, 0))), (7, .int .i64 x20), (8, .str x21), (9, .int .i64 x20), (66, .str p0), (67, .int .i64 x20)] H (noU_all rfl) (fun fr => by kernel_rfl) ?_
         intro fr H
         obtain ⟨x38, hx, hm⟩ := bind_some hm
         refine at_step (v := .int .u8 x38) (h1 := h16) [(0, .str p0), (2, .ptr (some (h.size, 0))), (5, .ptr (some (h1.size, 0))), (6, .ptr (some (h6.size, 0))), (7, .int .i64 x20), (8, .str x21), (9, .int .i64 x20), (68, .int .u8 x38)] H (fun fr => by kernel_rfl) (fun fr => .of (s_ixS (by kernel_rfl) hx)) ?_
         intro fr t H
         refine at_seg [(3, [])] [(0, .str p0), (2, .ptr (some (h.size, 0))), (5, .ptr (some (h1.size, 0))), (6, .ptr (some (h6.size, 0))), (7, .int .i64 x20), (8, .str x21), (9, .int .i64 x20), (10, .int .u8 x38)] H (noU_all rfl) (fun fr => by kernel_rfl) ?_
         intro fr H
         refine at_nil ?_
         show AW cfg 10 g (right (right (left (right (left (left (left (right (right (right (right (right (right (right (right (right (right (bodyC cfg.P 10)))))))))))))))))) fr h16 _
         refine aw_seq (by kernel_rfl) ?_
         refine aw_reg (id := 16) (n := 3) [(0, []), (1, []), (2, [])] (by kernel_rfl) (by kernel_rfl) ?_
         refine at_seg [(0, []), (1, []), (2, [])] [(0, .str p0), (2, .ptr (some (h.size, 0))), (5, .ptr (some (h1.size, 0))), (6, .ptr (some (h6.size, 0))), (7, .int .i64 (IntKind.i64.wrap (x20 + (1 : Int)))), (8, .str x21), (9, .int .i64 x20), (10, .int .u8 x38)] H (noU_all rfl) (fun fr => by kernel_rfl) ?_
         intro fr H
         refine at_nil ?_
         show AW cfg 10 g (right (right (right (left (right (left (left (left (right (right (right (right (right (right (right (right (right (right (bodyC cfg.P 10))))))))))))))))))) fr h16 _
         refine aw_seq (by kernel_rfl) ?_
         obtain ⟨o2, ho, hm⟩ := bind_some hm
         refine aw_mono (Q' := fun e fr' h' => (∃ (x39 : Int) (x40 : Int) (x41 : Int), e = .normal ∧ .inl (x39, x40, x41) = o2 ∧ Has fr' 156 [(0, .str p0), (2, .ptr (some (h.size, 0))), (5, .ptr (some (h1.size, 0))), (6, .ptr (some (h6.size, 0))), (7, .int .i64 x40), (8, .str x21), (9, .int .i64 x20), (10, .int .u8 x41)] ∧ HH g h' [.obj h6.size (.cells none 2 [.str x8, .str x11, .bool x13, .bool x14, .bool x15, .int .i64 x39, .bool x17, .bool x18, .bool x19]), .obj h1.size (.cells none 2 [.str ([] : List UInt8), .str ([] : List UInt8), .bool false, .bool false, .bool false, .int .i64 (0 : Int), .bool false, .bool false, .bool false]), .obj h.size (.cells none 2 [.str ([] : List UInt8), .str ([] : List UInt8), .bool false, .bool false, .bool false, .int .i64 (0 : Int), .bool false, .bool false, .bool false])] F) ∨ (∃ (x42 : Int) (x43 : Int), e = .ret ∧ .inr (x42, x43) = o2 ∧ Has fr' 156 [(2, .ptr (some (h.size, 0))), (3, .int .i64 x42), (4, .int .i64 x43)] ∧ HH g h' [.obj h6.size (.cells none 2 [.str x8, .str x11, .bool x13, .bool x14, .bool x15, .int .i64 x16, .bool x17, .bool x18, .bool x19]), .obj h1.size (.cells none 2 [.str ([] : List UInt8), .str ([] : List UInt8), .bool false, .bool false, .bool false, .int .i64 (0 : Int), .bool false, .bool false, .bool false]), .obj h.size (.cells none 2 [.str ([] : List UInt8), .str ([] : List UInt8), .bool false, .bool false, .bool false, .int .i64 (0 : Int), .bool false, .bool false, .bool false])] F) ∨ False) ?_ ?_
         ·replace hm := ho
          clear ho
          refine aw_seq (by kernel_rfl) ?_
          refine aw_reg (id := 17) (n := 6) [(0, []), (1, []), (2, []), (3, []), (4, []), (5, [])] (by kernel_rfl) (by kernel_rfl) ?_
          refine at_seg [(0, []), (1, []), (2, [])] [(0, .str p0), (2, .ptr (some (h.size, 0))), (5, .ptr (some (h1.size, 0))), (6, .ptr (some (h6.size, 0))), (7, .int .i64 (IntKind.i64.wrap (x20 + (1 : Int)))), (8, .str x21), (9, .int .i64 x20), (10, .int .u8 x38), (73, .bool (decide (x38 ≥ (49 : Int))))] H (noU_all rfl) (fun fr => by kernel_rfl) ?_
          intro fr H
          refine at_cut [(3, []), (4, []), (5, [])] (fun fr' h' => h16 = h' ∧ Has fr' 156 [(0, .str p0), (2, .ptr (some (h.size, 0))), (5, .ptr (some (h1.size, 0))), (6, .ptr (some (h6.size, 0))), (7, .int .i64 (IntKind.i64.wrap (x20 + (1 : Int)))), (8, .str x21), (9, .int .i64 x20), (10, .int .u8 x38), (76, .bool ((decide (x38 ≥ (49 : Int))) && (decide (x38 ≤ (57 : Int)))))]) ?_ ?_
          ·cases hb : (decide (x38 ≥ (49 : Int)) : Bool) with
           | true =>
            replace H := H.know 73 hb (by kernel_rfl)
            refine at_seg [(3, []), (4, []), (5, [])] [(0, .str p0), (2, .ptr (some (h.size, 0))), (5, .ptr (some (h1.size, 0))), (6, .ptr (some (h6.size, 0))), (7, .int .i64 (IntKind.i64.wrap (x20 + (1 : Int)))), (8, .str x21), (9, .int .i64 x20), (10, .int .u8 x38), (76, .bool (decide (x38 ≤ (57 : Int))))] H (noU_all rfl) (fun fr => by kernel_rfl) ?_
            intro fr H
            exact at_nil ⟨rfl, by first | exact H.less _ (fun fr => by rfl) | exact H.less _ (fun fr => by rw [hb]; rfl)⟩
           | false =>
            replace H := H.know 73 hb (by kernel_rfl)
            refine at_seg [(3, []), (4, []), (5, [])] [(0, .str p0), (2, .ptr (some (h.size, 0))), (5, .ptr (some (h1.size, 0))), (6, .ptr (some (h6.size, 0))), (7, .int .i64 (IntKind.i64.wrap (x20 + (1 : Int)))), (8, .str x21), (9, .int .i64 x20), (10, .int .u8 x38), (76, .bool false)] H (noU_all rfl) (fun fr => by kernel_rfl) ?_
            intro fr H
            exact at_nil ⟨rfl, by first | exact H.less _ (fun fr => by rfl) | exact H.less _ (fun fr => by rw [hb]; rfl)⟩
          ·intro t fr h' hK
           obtain ⟨e, H⟩ := hK
           subst e
           refine at_nil ?_
           show AW cfg 10 g (right (left (right (right (right (left (right (left (left (left (right (right (right (right (right (right (right (right (right (right (bodyC cfg.P 10))))))))))))))))))))) fr h16 _
           rcases iteB_some hm with ⟨hb, hm⟩ | ⟨hb, hm⟩
           ·replace H := H.know 76 hb (by kernel_rfl)
            refine aw_true (x := .tmp 76) (by kernel_rfl) H (fun fr => by kernel_rfl) ?_
            refine aw_seq (by kernel_rfl) ?_
            refine aw_reg (id := 18) (n := 4) [(0, []), (1, []), (2, []), (3, [])] (by kernel_rfl) (by kernel_rfl) ?_
            refine at_seg [(0, []), (1, []), (2, []), (3, [])] [(0, .str p0), (2, .ptr (some (h.size, 0))), (5, .ptr (some (h1.size, 0))), (6, .ptr (some (h6.size, 0))), (7, .int .i64 (IntKind.i64.wrap (x20 + (1 : Int)))), (8, .str x21), (9, .int .i64 x20), (11, .int .i64 (IntKind.i64.wrap ((IntKind.i64.wrap x38) - (48 : Int))))] H (noU_all rfl) (fun fr => by kernel_rfl) ?_
            intro fr H
            refine at_nil ?_
            show AW cfg 10 g (right (left (right (left (right (right (right (left (right (left (left (left (right (right (right (right (right (right (right (right (right (right (bodyC cfg.P 10))))))))))))))))))))))) fr h16 _
            refine aw_seq (by kernel_rfl) ?_
            refine aw_block (id := 2) (by kernel_rfl) ?_
            obtain ⟨o3, ho, hm⟩ := bind_some hm
            refine aw_mono (Q' := fun e fr' h' => (∃ (x46 : Int) (x47 : Int), e = .exit 2 ∧ (x46, x47) = o3 ∧ Has fr' 156 [(0, .str p0), (2, .ptr (some (h.size, 0))), (5, .ptr (some (h1.size, 0))), (6, .ptr (some (h6.size, 0))), (7, .int .i64 x46), (8, .str x21), (9, .int .i64 x20), (11, .int .i64 x47)] ∧ HH g h' [.obj h6.size (.cells none 2 [.str x8, .str x11, .bool x13, .bool x14, .bool x15, .int .i64 x16, .bool x17, .bool x18, .bool x19]), .obj h1.size (.cells none 2 [.str ([] : List UInt8), .str ([] : List UInt8), .bool false, .bool false, .bool false, .int .i64 (0 : Int), .bool false, .bool false, .bool false]), .obj h.size (.cells none 2 [.str ([] : List UInt8), .str ([] : List UInt8), .bool false, .bool false, .bool false, .int .i64 (0 : Int), .bool false, .bool false, .bool false])] F) ∨ False) ?_ ?_
            ·refine aw_loop (by kernel_rfl) (fun (s : Int × Int) fr' h' => ∃ (x44 : Int) (x45 : Int), (x44, x45) = s ∧ Has fr' 156 [(0, .str p0), (2, .ptr (some (h.size, 0))), (5, .ptr (some (h1.size, 0))), (6, .ptr (some (h6.size, 0))), (7, .int .i64 x44), (8, .str x21), (9, .int .i64 x20), (11, .int .i64 x45)] ∧ HH g h' [.obj h6.size (.cells none 2 [.str x8, .str x11, .bool x13, .bool x14, .bool x15, .int .i64 x16, .bool x17, .bool x18, .bool x19]), .obj h1.size (.cells none 2 [.str ([] : List UInt8), .str ([] : List UInt8), .bool false, .bool false, .bool false, .int .i64 (0 : Int), .bool false, .bool false, .bool false]), .obj h.size (.cells none 2 [.str ([] : List UInt8), .str ([] : List UInt8), .bool false, .bool false, .bool false, .int .i64 (0 : Int), .bool false, .bool false, .bool false])] F) ho ⟨IntKind.i64.wrap (x20 + (1 : Int)), IntKind.i64.wrap ((IntKind.i64.wrap x38) - (48 : Int)), rfl, H.less _ (fun fr => by kernel_rfl), A⟩ ?_
             clear ho hm H A
             intro s q fr h17 hI hm
             obtain ⟨x44, x45, rfl, H, A⟩ := hI
             unfold M_boulterref24_Parse_L1 at hm
             refine aw_seq (by kernel_rfl) ?_
             refine aw_seq (by kernel_rfl) ?_
             refine aw_reg (id := 19) (n := 16) [(0, []), (1, []), (2, []), (3, []), (4, []), (5, []), (6, []), (7, []), (8, []), (9, []), (10, []), (11, []), (12, []), (13, []), (14, []), (15, [])] (by kernel_rfl) (by kernel_rfl) ?_
             refine at_seg [(0, []), (1, []), (2, []), (3, []), (4, [])] [(0, .str p0), (2, .ptr (some (h.size, 0))), (5, .ptr (some (h1.size, 0))), (6, .ptr (some (h6.size, 0))), (7, .int .i64 x44), (8, .str x21), (9, .int .i64 x20), (11, .int .i64 x45), (84, .bool (decide (x44 < (p0.length : Int))))] H (noU_all rfl) (fun fr => by kernel_rfl) ?_
             intro fr H
             obtain ⟨x48, ho, hm⟩ := bind_some hm
             refine at_cut [(5, []), (6, []), (7, []), (8, []), (9, [])] (fun fr' h' => Has fr' 156 [(0, .str p0), (2, .ptr (some (h.size, 0))), (5, .ptr (some (h1.size, 0))), (6, .ptr (some (h6.size, 0))), (7, .int .i64 x44), (8, .str x21), (9, .int .i64 x20), (11, .int .i64 x45), (89, .bool x48)] ∧ HH g h' [.obj h6.size (.cells none 2 [.str x8, .str x11, .bool x13, .bool x14, .bool x15, .int .i64 x16, .bool x17, .bool x18, .bool x19]), .obj h1.size (.cells none 2 [.str ([] : List UInt8), .str ([] : List UInt8), .bool false, .bool false, .bool false, .int .i64 (0 : Int), .bool false, .bool false, .bool false]), .obj h.size (.cells none 2 [.str ([] : List UInt8), .str ([] : List UInt8), .bool false, .bool false, .bool false, .int .i64 (0 : Int), .bool false, .bool false, .bool false])] F) ?_ ?_
             ·rcases iteB_some ho with ⟨hb, hm⟩ | ⟨hb, hm⟩
              ·replace H := H.know 84 hb (by kernel_rfl)
               refine at_seg [(5, []), (6, [])] [(0, .str p0), (2, .ptr (some (h.size, 0))), (5, .ptr (some (h1.size, 0))), (6, .ptr (some (h6.size, 0))), (7, .int .i64 x44), (8, .str x21), (9, .int .i64 x20), (11, .int .i64 x45), (84, .bool true), (85, .str p0), (86, .int .i64 x44)] H (noU_all rfl) (fun fr => by kernel_rfl) ?_
               intro fr H
               obtain ⟨x49, hx, hm⟩ := bind_some hm
               refine at_step (v := .int .u8 x49) (h1 := h17) [(0, .str p0), (2, .ptr (some (h.size, 0))), (5, .ptr (some (h1.size, 0))), (6, .ptr (some (h6.size, 0))), (7, .int .i64 x44), (8, .str x21), (9, .int .i64 x20), (11, .int .i64 x45), (84, .bool true), (87, .int .u8 x49)] H (fun fr => by kernel_rfl) (fun fr => .of (s_ixS (by kernel_rfl) hx)) ?_
               intro fr t H
               refine at_seg [(8, []), (9, [])] [(0, .str p0), (2, .ptr (some (h.size, 0))), (5, .ptr (some (h1.size, 0))), (6, .ptr (some (h6.size, 0))), (7, .int .i64 x44), (8, .str x21), (9, .int .i64 x20), (11, .int .i64 x45), (89, .bool (decide (x49 ≥ (48 : Int))))] H (noU_all rfl) (fun fr => by kernel_rfl) ?_
               intro fr H
               have e1 := Option.some.inj hm
               subst e1
               exact at_nil ⟨H.less _ (fun fr => by kernel_rfl), A⟩
              ·replace H := H.know 84 hb (by kernel_rfl)
               refine at_seg [(5, []), (6, []), (7, []), (8, []), (9, [])] [(0, .str p0), (2, .ptr (some (h.size, 0))), (5, .ptr (some (h1.size, 0))), (6, .ptr (some (h6.size, 0))), (7, .int .i64 x44), (8, .str x21), (9, .int .i64 x20), (11, .int .i64 x45), (89, .bool false)] H (noU_all rfl) (fun fr => by kernel_rfl) ?_
               intro fr H
               have e1 := Option.some.inj hm
               subst e1
               exact at_nil ⟨H.less _ (fun fr => by kernel_rfl), A⟩
             ·clear A
              intro t fr h18 hK
              obtain ⟨H, A⟩ := hK
              refine at_seg [(10, [])] [(0, .str p0), (2, .ptr (some (h.size, 0))), (5, .ptr (some (h1.size, 0))), (6, .ptr (some (h6.size, 0))), (7, .int .i64 x44), (8, .str x21), (9, .int .i64 x20), (11, .int .i64 x45), (90, .bool x48)] H (noU_all rfl) (fun fr => by kernel_rfl) ?_
              intro fr H
              obtain ⟨x50, ho, hm⟩ := bind_some hm
              refine at_cut [(11, []), (12, []), (13, []), (14, []), (15, [])] (fun fr' h' => Has fr' 156 [(0, .str p0), (2, .ptr (some (h.size, 0))), (5, .ptr (some (h1.size, 0))), (6, .ptr (some (h6.size, 0))), (7, .int .i64 x44), (8, .str x21), (9, .int .i64 x20), (11, .int .i64 x45), (95, .bool x50)] ∧ HH g h' [.obj h6.size (.cells none 2 [.str x8, .str x11, .bool x13, .bool x14, .bool x15, .int .i64 x16, .bool x17, .bool x18, .bool x19]), .obj h1.size (.cells none 2 [.str ([] : List UInt8), .str ([] : List UInt8), .bool false, .bool false, .bool false, .int .i64 (0 : Int), .bool false, .bool false, .bool false]), .obj h.size (.cells none 2 [.str ([] : List UInt8), .str ([] : List UInt8), .bool false, .bool false, .bool false, .int .i64 (0 : Int), .bool false, .bool false, .bool false])] F) ?_ ?_
              ·rcases iteB_some ho with ⟨hb, hm⟩ | ⟨hb, hm⟩
               ·replace H := H.know 90 hb (by kernel_rfl)
                refine at_seg [(11, []), (12, [])] [(0, .str p0), (2, .ptr (some (h.size, 0))), (5, .ptr (some (h1.size, 0))), (6, .ptr (some (h6.size, 0))), (7, .int .i64 x44), (8, .str x21), (9, .int .i64 x20), (11, .int .i64 x45), (90, .bool true), (91, .str p0), (92, .int .i64 x44)] H (noU_all rfl) (fun fr => by kernel_rfl) ?_
                intro fr H
                obtain ⟨x51, hx, hm⟩ := bind_some hm
                refine at_step (v := .int .u8 x51) (h1 := h18) [(0, .str p0), (2, .ptr (some (h.size, 0))), (5, .ptr (some (h1.size, 0))), (6, .ptr (some (h6.size, 0))), (7, .int .i64 x44), (8, .str x21), (9, .int .i64 x20), (11, .int .i64 x45), (90, .bool true), (93, .int .u8 x51)] H (fun fr => by kernel_rfl) (fun fr => .of (s_ixS (by kernel_rfl) hx)) ?_
                intro fr t H
                refine at_seg [(14, []), (15, [])] [(0, .str p0), (2, .ptr (some (h.size, 0))), (5, .ptr (some (h1.size, 0))), (6, .ptr (some (h6.size, 0))), (7, .int .i64 x44), (8, .str x21), (9, .int .i64 x20), (11, .int .i64 x45), (95, .bool (decide (x51 ≤ (57 : Int))))] H (noU_all rfl) (fun fr => by kernel_rfl) ?_
                intro fr H
                have e1 := Option.some.inj hm
                subst e1
                exact at_nil ⟨H.less _ (fun fr => by kernel_rfl), A⟩
               ·replace H := H.know 90 hb (by kernel_rfl)
                refine at_seg [(11, []), (12, []), (13, []), (14, []), (15, [])] [(0, .str p0), (2, .ptr (some (h.size, 0))), (5, .ptr (some (h1.size, 0))), (6, .ptr (some (h6.size, 0))), (7, .int .i64 x44), (8, .str x21), (9, .int .i64 x20), (11, .int .i64 x45), (95, .bool false)] H (noU_all rfl) (fun fr => by kernel_rfl) ?_
                intro fr H
                have e1 := Option.some.inj hm
                subst e1
                exact at_nil ⟨H.less _ (fun fr => by kernel_rfl), A⟩
              ·clear A
               intro t fr h19 hK
               obtain ⟨H, A⟩ := hK
               refine at_nil ?_
               show AW cfg 10 g (right (left (left (left (left (right (left (right (left (right (right (right (left (right (left (left (left (right (right (right (right (right (right (right (right (right (right (bodyC cfg.P 10)))))))))))))))))))))))))))) fr h19 _
               rcases iteB_some hm with ⟨hb, hm⟩ | ⟨hb, hm⟩
               ·replace H := H.know 95 hb (by kernel_rfl)
                refine aw_true (x := .tmp 95) (by kernel_rfl) H (fun fr => by kernel_rfl) ?_
                refine aw_skip (by kernel_rfl) ?_
                show AW cfg 10 g (right (left (left (left (right (left (right (left (right (right (right (left (right (left (left (left (right (right (right (right (right (right (right (right (right (right (bodyC cfg.P 10))))))))))))))))))))))))))) fr h19 _
                refine aw_block (id := 3) (by kernel_rfl) ?_
                refine aw_seq (by kernel_rfl) ?_
                refine aw_reg (id := 20) (n := 10) [(0, []), (1, []), (2, []), (3, []), (4, []), (5, []), (6, []), (7, []), (8, []), (9, [])] (by kernel_rfl) (by kernel_rfl) ?_
                refine at_seg [(0, []), (1, []), (2, []), (3, [])] [(0, .str p0), (2, .ptr (some (h.size, 0))), (5, .ptr (some (h1.size, 0))), (6, .ptr (some (h6.size, 0))), (7, .int .i64 x44), (8, .str x21), (9, .int .i64 x20), (97, .int .i64 (IntKind.i64.wrap ((10 : Int) * x45))), (98, .str p0), (99, .int .i64 x44)] H (noU_all rfl) (fun fr => by kernel_rfl) ?_
                intro fr H
                obtain ⟨x52, hx, hm⟩ := bind_some hm
                refine at_step (v := .int .u8 x52) (h1 := h19) [(0, .str p0), (2, .ptr (some (h.size, 0))), (5, .ptr (some (h1.size, 0))), (6, .ptr (some (h6.size, 0))), (7, .int .i64 x44), (8, .str x21), (9, .int .i64 x20), (97, .int .i64 (IntKind.i64.wrap ((10 : Int) * x45))), (100, .int .u8 x52)] H (fun fr => by kernel_rfl) (fun fr => .of (s_ixS (by kernel_rfl) hx)) ?_
                intro fr t H
                refine at_seg [(5, []), (6, []), (7, []), (8, []), (9, [])] [(0, .str p0), (2, .ptr (some (h.size, 0))), (5, .ptr (some (h1.size, 0))), (6, .ptr (some (h6.size, 0))), (7, .int .i64 x44), (8, .str x21), (9, .int .i64 x20), (11, .int .i64 (mn (IntKind.i64.wrap ((IntKind.i64.wrap ((IntKind.i64.wrap ((10 : Int) * x45)) + (IntKind.i64.wrap x52))) - (48 : Int))) (100000 : Int)))] H (noU_all rfl) (fun fr => by kernel_rfl) ?_
                intro fr H
                refine at_nil ?_
                show AW cfg 10 g (right (left (right (left (left (left (right (left (right (left (right (right (right (left (right (left (left (left (right (right (right (right (right (right (right (right (right (right (bodyC cfg.P 10))))))))))))))))))))))))))))) fr h19 _
                refine aw_reg (id := 21) (n := 3) [(0, []), (1, []), (2, [])] (by kernel_rfl) (by kernel_rfl) ?_
                refine at_seg [(0, []), (1, []), (2, [])] [(0, .str p0), (2, .ptr (some (h.size, 0))), (5, .ptr (some (h1.size, 0))), (6, .ptr (some (h6.size, 0))), (7, .int .i64 (IntKind.i64.wrap (x44 + (1 : Int)))), (8, .str x21), (9, .int .i64 x20), (11, .int .i64 (mn (IntKind.i64.wrap ((IntKind.i64.wrap ((IntKind.i64.wrap ((10 : Int) * x45)) + (IntKind.i64.wrap x52))) - (48 : Int))) (100000 : Int)))] H (noU_all rfl) (fun fr => by kernel_rfl) ?_
                intro fr H
                refine at_nil ?_
                exact Exists.intro (IntKind.i64.wrap (x44 + (1 : Int)), mn (IntKind.i64.wrap ((IntKind.i64.wrap ((IntKind.i64.wrap ((10 : Int) * x45)) + (IntKind.i64.wrap x52))) - (48 : Int))) (100000 : Int)) (And.intro (Option.some.inj hm).symm ⟨IntKind.i64.wrap (x44 + (1 : Int)), mn (IntKind.i64.wrap ((IntKind.i64.wrap ((IntKind.i64.wrap ((10 : Int) * x45)) + (IntKind.i64.wrap x52))) - (48 : Int))) (100000 : Int), rfl, H.less _ (fun fr => by kernel_rfl), A⟩)
               ·replace H := H.know 95 hb (by kernel_rfl)
                refine aw_false (x := .tmp 95) (by kernel_rfl) H (fun fr => by kernel_rfl) ?_
                refine aw_exit (i := 2) (by kernel_rfl) ?_
                exact Exists.intro _ (And.intro (Option.some.inj hm).symm (fun e => Or.inl ⟨x44, x45, rfl, e, H.less _ (fun fr => by kernel_rfl), A⟩))
            ·clear ho
             clear A
             intro e fr h20 hQ
             rcases hQ with ⟨x46, x47, rfl, rfl, H, A⟩ | hF
             ·skip
              show AW cfg 10 g (right (right (left (right (left (right (right (right (left (right (left (left (left (right (right (right (right (right (right (right (right (right (right (bodyC cfg.P 10)))))))))))))))))))))))) fr h20 _
              refine aw_seq (by kernel_rfl) ?_
              refine aw_seq (by kernel_rfl) ?_
              refine aw_reg (id := 22) (n := 2) [(0, []), (1, [])] (by kernel_rfl) (by kernel_rfl) ?_
              refine at_seg [(0, []), (1, [])] [(0, .str p0), (2, .ptr (some (h.size, 0))), (5, .ptr (some (h1.size, 0))), (6, .ptr (some (h6.size, 0))), (7, .int .i64 x46), (8, .str x21), (9, .int .i64 x20), (11, .int .i64 x47), (108, .bool (decide (x47 > (9999 : Int))))] H (noU_all rfl) (fun fr => by kernel_rfl) ?_
              intro fr H
              refine at_nil ?_
              show AW cfg 10 g (right (left (right (right (left (right (left (right (right (right (left (right (left (left (left (right (right (right (right (right (right (right (right (right (right (bodyC cfg.P 10)))))))))))))))))))))))))) fr h20 _
              rcases iteB_some hm with ⟨hb, hm⟩ | ⟨hb, hm⟩
              ·replace H := H.know 108 hb (by kernel_rfl)
               refine aw_true (x := .tmp 108) (by kernel_rfl) H (fun fr => by kernel_rfl) ?_
               refine aw_seq (by kernel_rfl) ?_
               refine aw_reg (id := 23) (n := 5) [(0, []), (1, []), (2, []), (3, []), (4, [])] (by kernel_rfl) (by kernel_rfl) ?_
               refine at_step (v := .agg [.str ([] : List UInt8), .str ([] : List UInt8), .bool false, .bool false, .bool false, .int .i64 (0 : Int), .bool false, .bool false, .bool false]) (h1 := h20) [(2, .ptr (some (h.size, 0))), (9, .int .i64 x20), (109, .agg [.str ([] : List UInt8), .str ([] : List UInt8), .bool false, .bool false, .bool false, .int .i64 (0 : Int), .bool false, .bool false, .bool false])] H (fun fr => by kernel_rfl) (fun fr => .of (s_ldA (by kernel_rfl) (A.ldA 1 rfl (o := 0) (n := 9) ⟨Nat.le_of_ble_eq_true rfl, rfl⟩))) ?_
               intro fr t H
               refine at_seg [(1, [])] [(2, .ptr (some (h.size, 0))), (109, .agg [.str ([] : List UInt8), .str ([] : List UInt8), .bool false, .bool false, .bool false, .int .i64 (0 : Int), .bool false, .bool false, .bool false]), (110, .int .i64 x20)] H (noU_all rfl) (fun fr => by kernel_rfl) ?_
               intro fr H
               obtain ⟨h21, hx, A1⟩ := A.st 2 rfl (o := 0) (new := [.str ([] : List UInt8), .str ([] : List UInt8), .bool false, .bool false, .bool false, .int .i64 (0 : Int), .bool false, .bool false, .bool false]) (ds := [.str ([] : List UInt8), .str ([] : List UInt8), .bool false, .bool false, .bool false, .int .i64 (0 : Int), .bool false, .bool false, .bool false]) (Nat.le_of_ble_eq_true rfl) rfl rfl
               replace A : HH g h21 [.obj h6.size (.cells none 2 [.str x8, .str x11, .bool x13, .bool x14, .bool x15, .int .i64 x16, .bool x17, .bool x18, .bool x19]), .obj h1.size (.cells none 2 [.str ([] : List UInt8), .str ([] : List UInt8), .bool false, .bool false, .bool false, .int .i64 (0 : Int), .bool false, .bool false, .bool false]), .obj h.size (.cells none 2 [.str ([] : List UInt8), .str ([] : List UInt8), .bool false, .bool false, .bool false, .int .i64 (0 : Int), .bool false, .bool false, .bool false])] F := A1
               refine at_step (v := .tuple []) (h1 := h21) [(2, .ptr (some (h.size, 0))), (110, .int .i64 x20)] H (fun fr => by kernel_rfl) (fun fr => .of (s_stG (by kernel_rfl) (stG_st hx rfl))) ?_
               intro fr t H
               refine at_seg [(3, []), (4, [])] [(2, .ptr (some (h.size, 0))), (3, .int .i64 x20), (4, .int .i64 (11 : Int))] H (noU_all rfl) (fun fr => by kernel_rfl) ?_
               intro fr H
               refine at_nil ?_
               show AW cfg 10 g (right (left (right (left (right (right (left (right (left (right (right (right (left (right (left (left (left (right (right (right (right (right (right (right (right (right (right (bodyC cfg.P 10)))))))))))))))))))))))))))) fr h21 _
               refine aw_ret (by kernel_rfl) ?_
               exact Or.inr (Or.inl ⟨x20, (11 : Int), rfl, Option.some.inj hm, H.less _ (fun fr => by kernel_rfl), A⟩)
              ·replace H := H.know 108 hb (by kernel_rfl)
               refine aw_false (x := .tmp 108) (by kernel_rfl) H (fun fr => by kernel_rfl) ?_
               refine aw_skip (by kernel_rfl) ?_
               show AW cfg 10 g (right (right (right (left (right (left (right (right (right (left (right (left (left (left (right (right (right (right (right (right (right (right (right (right (bodyC cfg.P 10))))))))))))))))))))))))) fr h20 _
               refine aw_seq (by kernel_rfl) ?_
               refine aw_reg (id := 24) (n := 3) [(0, []), (1, []), (2, [])] (by kernel_rfl) (by kernel_rfl) ?_
               refine at_seg [(0, []), (1, [])] [(0, .str p0), (2, .ptr (some (h.size, 0))), (5, .ptr (some (h1.size, 0))), (6, .ptr (some (h6.size, 0))), (7, .int .i64 x46), (8, .str x21), (9, .int .i64 x20), (111, .int .i64 x47), (112, .ptr (some (h6.size, 5)))] H (noU_all rfl) (fun fr => by kernel_rfl) ?_
               intro fr H
               obtain ⟨h22, hx, A1⟩ := A.st 0 rfl (o := 5) (new := [.int .i64 x47]) (ds := [.str x8, .str x11, .bool x13, .bool x14, .bool x15, .int .i64 x47, .bool x17, .bool x18, .bool x19]) (Nat.le_of_ble_eq_true rfl) rfl rfl
               replace A : HH g h22 [.obj h6.size (.cells none 2 [.str x8, .str x11, .bool x13, .bool x14, .bool x15, .int .i64 x47, .bool x17, .bool x18, .bool x19]), .obj h1.size (.cells none 2 [.str ([] : List UInt8), .str ([] : List UInt8), .bool false, .bool false, .bool false, .int .i64 (0 : Int), .bool false, .bool false, .bool false]), .obj h.size (.cells none 2 [.str ([] : List UInt8), .str ([] : List UInt8), .bool false, .bool false, .bool false, .int .i64 (0 : Int), .bool false, .bool false, .bool false])] F := A1
               refine at_step (v := .tuple []) (h1 := h22) [(0, .str p0), (2, .ptr (some (h.size, 0))), (5, .ptr (some (h1.size, 0))), (6, .ptr (some (h6.size, 0))), (7, .int .i64 x46), (8, .str x21), (9, .int .i64 x20)] H (fun fr => by kernel_rfl) (fun fr => .of (s_st (by kernel_rfl) rfl hx)) ?_
               intro fr t H
               refine at_nil ?_
               show AW cfg 10 g (right (right (right (right (left (right (left (right (right (right (left (right (left (left (left (right (right (right (right (right (right (right (right (right (right (bodyC cfg.P 10)))))))))))))))))))))))))) fr h22 _
               refine aw_reg (id := 25) (n := 1) [(0, [])] (by kernel_rfl) (by kernel_rfl) ?_
               refine at_seg [(0, [])] [(0, .str p0), (2, .ptr (some (h.size, 0))), (5, .ptr (some (h1.size, 0))), (6, .ptr (some (h6.size, 0))), (7, .int .i64 x46), (8, .str x21), (9, .int .i64 x20), (10, .int .u8 (49 : Int))] H (noU_all rfl) (fun fr => by kernel_rfl) ?_
               intro fr H
               refine at_nil ?_
               exact Or.inl ⟨x47, x46, (49 : Int), rfl, Option.some.inj hm, H.less _ (fun fr => by kernel_rfl), A⟩
             ·exact hF.elim
           ·replace H := H.know 76 hb (by kernel_rfl)
            refine aw_false (x := .tmp 76) (by kernel_rfl) H (fun fr => by kernel_rfl) ?_
            refine aw_skip (by kernel_rfl) ?_
            exact Or.inl ⟨x16, IntKind.i64.wrap (x20 + (1 : Int)), x38, rfl, Option.some.inj hm, H.less _ (fun fr => by kernel_rfl), A⟩
         ·clear ho
          clear A
          intro e fr h23 hQ
          rcases hQ with ⟨x39, x40, x41, rfl, rfl, H, A⟩ | ⟨x42, x43, rfl, rfl, H, A⟩ | hF
          ·skip
           show AW cfg 10 g (right (right (right (right (left (right (left (left (left (right (right (right (right (right (right (right (right (right (right (bodyC cfg.P 10)))))))))))))))))))) fr h23 _
           refine aw_seq (by kernel_rfl) ?_
           obtain ⟨o4, ho, hm⟩ := bind_some hm
           refine aw_mono (Q' := fun e fr' h' => (∃ (x53 : Bool) (x54 : Bool) (x55 : Bool) (x56 : Bool) (x57 : Bool) (x58 : Bool) (x59 : Int), e = .normal ∧ .inl (x53, x54, x55, x56, x57, x58, x59) = o4 ∧ Has fr' 156 [(0, .str p0), (2, .ptr (some (h.size, 0))), (5, .ptr (some (h1.size, 0))), (6, .ptr (some (h6.size, 0))), (7, .int .i64 x40), (8, .str x21), (9, .int .i64 x20), (10, .int .u8 x59)] ∧ HH g h' [.obj h6.size (.cells none 2 [.str x8, .str x11, .bool x53, .bool x54, .bool x55, .int .i64 x39, .bool x56, .bool x57, .bool x58]), .obj h1.size (.cells none 2 [.str ([] : List UInt8), .str ([] : List UInt8), .bool false, .bool false, .bool false, .int .i64 (0 : Int), .bool false, .bool false, .bool false]), .obj h.size (.cells none 2 [.str ([] : List UInt8), .str ([] : List UInt8), .bool false, .bool false, .bool false, .int .i64 (0 : Int), .bool false, .bool false, .bool false])] F) ∨ (∃ (x60 : Int) (x61 : Int), e = .ret ∧ .inr (x60, x61) = o4 ∧ Has fr' 156 [(2, .ptr (some (h.size, 0))), (3, .int .i64 x60), (4, .int .i64 x61)] ∧ HH g h' [.obj h6.size (.cells none 2 [.str x8, .str x11, .bool x13, .bool x14, .bool x15, .int .i64 x39, .bool x17, .bool x18, .bool x19]), .obj h1.size (.cells none 2 [.str ([] : List UInt8), .str ([] : List UInt8), .bool false, .bool false, .bool false, .int .i64 (0 : Int), .bool false, .bool false, .bool false]), .obj h.size (.cells none 2 [.str ([] : List UInt8), .str ([] : List UInt8), .bool false, .bool false, .bool false, .int .i64 (0 : Int), .bool false, .bool false, .bool false])] F) ∨ False) ?_ ?_
           ·replace hm := ho
            clear ho
            refine aw_seq (by kernel_rfl) ?_
            refine aw_reg (id := 26) (n := 1) [(0, [])] (by kernel_rfl) (by kernel_rfl) ?_
            refine at_seg [(0, [])] [(0, .str p0), (2, .ptr (some (h.size, 0))), (5, .ptr (some (h1.size, 0))), (6, .ptr (some (h6.size, 0))), (7, .int .i64 x40), (8, .str x21), (9, .int .i64 x20), (10, .int .u8 x41), (113, .int .u8 x41)] H (noU_all rfl) (fun fr => by kernel_rfl) ?_
            intro fr H
            refine at_nil ?_
            show AW cfg 10 g (right (left (right (right (right (right (left (right (left (left (left (right (right (right (right (right (right (right (right (right (right (bodyC cfg.P 10)))))))))))))))))))))) fr h23 _
            refine aw_block (id := 4) (by kernel_rfl) ?_
            refine aw_seq (by kernel_rfl) ?_
            refine aw_reg (id := 28) (n := 2) [(0, []), (1, [])] (by kernel_rfl) (by kernel_rfl) ?_
            refine at_seg [(0, []), (1, [])] [(0, .str p0), (2, .ptr (some (h.size, 0))), (5, .ptr (some (h1.size, 0))), (6, .ptr (some (h6.size, 0))), (7, .int .i64 x40), (8, .str x21), (9, .int .i64 x20), (10, .int .u8 x41), (113, .int .u8 x41), (116, .bool (x41 == (49 : Int)))] H (noU_all rfl) (fun fr => by kernel_rfl) ?_
            intro fr H
            refine at_nil ?_
            show AW cfg 10 g (right (left (right (left (right (right (right (right (left (right (left (left (left (right (right (right (right (right (right (right (right (right (right (bodyC cfg.P 10)))))))))))))))))))))))) fr h23 _
            rcases iteB_some hm with ⟨hb, hm⟩ | ⟨hb, hm⟩
            ·replace H := H.know 116 hb (by kernel_rfl)
             refine aw_true (x := .tmp 116) (by kernel_rfl) H (fun fr => by kernel_rfl) ?_
             refine aw_skip (by kernel_rfl) ?_
             exact Or.inl ⟨x13, x14, x15, x17, x18, x19, x41, rfl, Option.some.inj hm, H.less _ (fun fr => by kernel_rfl), A⟩
            ·replace H := H.know 116 hb (by kernel_rfl)
             refine aw_false (x := .tmp 116) (by kernel_rfl) H (fun fr => by kernel_rfl) ?_
             refine aw_seq (by kernel_rfl) ?_
             refine aw_reg (id := 29) (n := 2) [(0, []), (1, [])] (by kernel_rfl) (by kernel_rfl) ?_
             refine at_seg [(0, []), (1, [])] [(0, .str p0), (2, .ptr (some (h.size, 0))), (5, .ptr (some (h1.size, 0))), (6, .ptr (some (h6.size, 0))), (7, .int .i64 x40), (8, .str x21), (9, .int .i64 x20), (10, .int .u8 x41), (113, .int .u8 x41), (118, .bool (x41 == (103 : Int)))] H (noU_all rfl) (fun fr => by kernel_rfl) ?_
             intro fr H
             refine at_nil ?_
             show AW cfg 10 g (right (right (right (left (right (left (right (right (right (right (left (right (left (left (left (right (right (right (right (right (right (right (right (right (right (bodyC cfg.P 10)))))))))))))))))))))))))) fr h23 _
             rcases iteB_some hm with ⟨hb, hm⟩ | ⟨hb, hm⟩
             ·replace H := H.know 118 hb (by kernel_rfl)
              refine aw_true (x := .tmp 118) (by kernel_rfl) H (fun fr => by kernel_rfl) ?_
              refine aw_reg (id := 30) (n := 2) [(0, []), (1, [])] (by kernel_rfl) (by kernel_rfl) ?_
              refine at_seg [(0, [])] [(0, .str p0), (2, .ptr (some (h.size, 0))), (5, .ptr (some (h1.size, 0))), (6, .ptr (some (h6.size, 0))), (7, .int .i64 x40), (8, .str x21), (9, .int .i64 x20), (10, .int .u8 x41), (120, .ptr (some (h6.size, 2)))] H (noU_all rfl) (fun fr => by kernel_rfl) ?_
              intro fr H
              obtain ⟨h24, hx, A1⟩ := A.st 0 rfl (o := 2) (new := [.bool true]) (ds := [.str x8, .str x11, .bool true, .bool x14, .bool x15, .int .i64 x39, .bool x17, .bool x18, .bool x19]) (Nat.le_of_ble_eq_true rfl) rfl rfl
              replace A : HH g h24 [.obj h6.size (.cells none 2 [.str x8, .str x11, .bool true, .bool x14, .bool x15, .int .i64 x39, .bool x17, .bool x18, .bool x19]), .obj h1.size (.cells none 2 [.str ([] : List UInt8), .str ([] : List UInt8), .bool false, .bool false, .bool false, .int .i64 (0 : Int), .bool false, .bool false, .bool false]), .obj h.size (.cells none 2 [.str ([] : List UInt8), .str ([] : List UInt8), .bool false, .bool false, .bool false, .int .i64 (0 : Int), .bool false, .bool false, .bool false])] F := A1
              refine at_step (v := .tuple []) (h1 := h24) [(0, .str p0), (2, .ptr (some (h.size, 0))), (5, .ptr (some (h1.size, 0))), (6, .ptr (some (h6.size, 0))), (7, .int .i64 x40), (8, .str x21), (9, .int .i64 x20), (10, .int .u8 x41)] H (fun fr => by kernel_rfl) (fun fr => .of (s_st (by kernel_rfl) rfl hx)) ?_
              intro fr t H
              refine at_nil ?_
              exact Or.inl ⟨true, x14, x15, x17, x18, x19, x41, rfl, Option.some.inj hm, H.less _ (fun fr => by kernel_rfl), A⟩
             ·replace H := H.know 118 hb (by kernel_rfl)
              refine aw_false (x := .tmp 118) (by kernel_rfl) H (fun fr => by kernel_rfl) ?_
              refine aw_seq (by kernel_rfl) ?_
              refine aw_reg (id := 31) (n := 2) [(0, []), (1, [])] (by kernel_rfl) (by kernel_rfl) ?_
              refine at_seg [(0, []), (1, [])] [(0, .str p0), (2, .ptr (some (h.size, 0))), (5, .ptr (some (h1.size, 0))), (6, .ptr (some (h6.size, 0))), (7, .int .i64 x40), (8, .str x21), (9, .int .i64 x20), (10, .int .u8 x41), (113, .int .u8 x41), (121, .bool (x41 == (105 : Int)))] H (noU_all rfl) (fun fr => by kernel_rfl) ?_
              intro fr H
              refine at_nil ?_
              show AW cfg 10 g (right (right (right (right (right (left (right (left (right (right (right (right (left (right (left (left (left (right (right (right (right (right (right (right (right (right (right (bodyC cfg.P 10)))))))))))))))))))))))))))) fr h23 _
              rcases iteB_some hm with ⟨hb, hm⟩ | ⟨hb, hm⟩
              ·replace H := H.know 121 hb (by kernel_rfl)
               refine aw_true (x := .tmp 121) (by kernel_rfl) H (fun fr => by kernel_rfl) ?_
               refine aw_reg (id := 32) (n := 2) [(0, []), (1, [])] (by kernel_rfl) (by kernel_rfl) ?_
               refine at_seg [(0, [])] [(0, .str p0), (2, .ptr (some (h.size, 0))), (5, .ptr (some (h1.size, 0))), (6, .ptr (some (h6.size, 0))), (7, .int .i64 x40), (8, .str x21), (9, .int .i64 x20), (10, .int .u8 x41), (123, .ptr (some (h6.size, 3)))] H (noU_all rfl) (fun fr => by kernel_rfl) ?_
               intro fr H
               obtain ⟨h25, hx, A1⟩ := A.st 0 rfl (o := 3) (new := [.bool true]) (ds := [.str x8, .str x11, .bool x13, .bool true, .bool x15, .int .i64 x39, .bool x17, .bool x18, .bool x19]) (Nat.le_of_ble_eq_true rfl) rfl rfl
               replace A : HH g h25 [.obj h6.size (.cells none 2 [.str x8, .str x11, .bool x13, .bool true, .bool x15, .int .i64 x39, .bool x17, .bool x18, .bool x19]), .obj h1.size (.cells none 2 [.str ([] : List UInt8), .str ([] : List UInt8), .bool false, .bool false, .bool false, .int .i64 (0 : Int), .bool false, .bool false, .bool false]), .obj h.size (.cells none 2 [.str ([] : List UInt8), .str ([] : List UInt8), .bool false, .bool false, .bool false, .int .i64 (0 : Int), .bool false, .bool false, .bool false])] F := A1
               refine at_step (v := .tuple []) (h1 := h25) [(0, .str p0), (2, .ptr (some (h.size, 0))), (5, .ptr (some (h1.size, 0))), (6, .ptr (some (h6.size, 0))), (7, .int .i64 x40), (8, .str x21), (9, .int .i64 x20), (10, .int .u8 x41)] H (fun fr => by kernel_rfl) (fun fr => .of (s_st (by kernel_rfl) rfl hx)) ?_
               intro fr t H
               refine at_nil ?_
               exact Or.inl ⟨x13, true, x15, x17, x18, x19, x41, rfl, Option.some.inj hm, H.less _ (fun fr => by kernel_rfl), A⟩
              ·replace H := H.know 121 hb (by kernel_rfl)
               refine aw_false (x := .tmp 121) (by kernel_rfl) H (fun fr => by kernel_rfl) ?_
               refine aw_seq (by kernel_rfl) ?_
               refine aw_reg (id := 33) (n := 2) [(0, []), (1, [])] (by kernel_rfl) (by kernel_rfl) ?_
               refine at_seg [(0, []), (1, [])] [(0, .str p0), (2, .ptr (some (h.size, 0))), (5, .ptr (some (h1.size, 0))), (6, .ptr (some (h6.size, 0))), (7, .int .i64 x40), (8, .str x21), (9, .int .i64 x20), (10, .int .u8 x41), (113, .int .u8 x41), (124, .bool (x41 == (120 : Int)))] H (noU_all rfl) (fun fr => by kernel_rfl) ?_
               intro fr H
               refine at_nil ?_
               show AW cfg 10 g (right (right (right (right (right (right (right (left (right (left (right (right (right (right (left (right (left (left (left (right (right (right (right (right (right (right (right (right (right (bodyC cfg.P 10)))))))))))))))))))))))))))))) fr h23 _
               rcases iteB_some hm with ⟨hb, hm⟩ | ⟨hb, hm⟩
               ·replace H := H.know 124 hb (by kernel_rfl)
                refine aw_true (x := .tmp 124) (by kernel_rfl) H (fun fr => by kernel_rfl) ?_
                refine aw_reg (id := 34) (n := 2) [(0, []), (1, [])] (by kernel_rfl) (by kernel_rfl) ?_
                refine at_seg [(0, [])] [(0, .str p0), (2, .ptr (some (h.size, 0))), (5, .ptr (some (h1.size, 0))), (6, .ptr (some (h6.size, 0))), (7, .int .i64 x40), (8, .str x21), (9, .int .i64 x20), (10, .int .u8 x41), (126, .ptr (some (h6.size, 4)))] H (noU_all rfl) (fun fr => by kernel_rfl) ?_
                intro fr H
                obtain ⟨h26, hx, A1⟩ := A.st 0 rfl (o := 4) (new := [.bool true]) (ds := [.str x8, .str x11, .bool x13, .bool x14, .bool true, .int .i64 x39, .bool x17, .bool x18, .bool x19]) (Nat.le_of_ble_eq_true rfl) rfl rfl
                replace A : HH g h26 [.obj h6.size (.cells none 2 [.str x8, .str x11, .bool x13, .bool x14, .bool true, .int .i64 x39, .bool x17, .bool x18, .bool x19]), .obj h1.size (.cells none 2 [.str ([] : List UInt8), .str ([] : List UInt8), .bool false, .bool false, .bool false, .int .i64 (0 : Int), .bool false, .bool false, .bool false]), .obj h.size (.cells none 2 [.str ([] : List UInt8), .str ([] : List UInt8), .bool false, .bool false, .bool false, .int .i64 (0 : Int), .bool false, .bool false, .bool false])] F := A1
                refine at_step (v := .tuple []) (h1 := h26) [(0, .str p0), (2, .ptr (some (h.size, 0))), (5, .ptr (some (h1.size, 0))), (6, .ptr (some (h6.size, 0))), (7, .int .i64 x40), (8, .str x21), (9, .int .i64 x20), (10, .int .u8 x41)] H (fun fr => by kernel_rfl) (fun fr => .of (s_st (by kernel_rfl) rfl hx)) ?_
                intro fr t H
                refine at_nil ?_
                exact Or.inl ⟨x13, x14, true, x17, x18, x19, x41, rfl, Option.some.inj hm, H.less _ (fun fr => by kernel_rfl), A⟩
               ·replace H := H.know 124 hb (by kernel_rfl)
                refine aw_false (x := .tmp 124) (by kernel_rfl) H (fun fr => by kernel_rfl) ?_
                refine aw_seq (by kernel_rfl) ?_
                obtain ⟨o5, ho, hm⟩ := bind_some hm
                refine aw_mono (Q' := fun e fr' h' => (∃ (x62 : Bool), e = .normal ∧ x62 = o5 ∧ Has fr' 156 [(0, .str p0), (2, .ptr (some (h.size, 0))), (5, .ptr (some (h1.size, 0))), (6, .ptr (some (h6.size, 0))), (7, .int .i64 x40), (8, .str x21), (9, .int .i64 x20), (10, .int .u8 x41), (113, .int .u8 x41), (127, .bool x62)] ∧ HH g h' [.obj h6.size (.cells none 2 [.str x8, .str x11, .bool x13, .bool x14, .bool x15, .int .i64 x39, .bool x17, .bool x18, .bool x19]), .obj h1.size (.cells none 2 [.str ([] : List UInt8), .str ([] : List UInt8), .bool false, .bool false, .bool false, .int .i64 (0 : Int), .bool false, .bool false, .bool false]), .obj h.size (.cells none 2 [.str ([] : List UInt8), .str ([] : List UInt8), .bool false, .bool false, .bool false, .int .i64 (0 : Int), .bool false, .bool false, .bool false])] F) ∨ False) ?_ ?_
                ·replace hm := ho
                 clear ho
                 refine aw_seq (by kernel_rfl) ?_
                 refine aw_reg (id := 35) (n := 2) [(0, []), (1, [])] (by kernel_rfl) (by kernel_rfl) ?_
                 refine at_seg [(0, []), (1, [])] [(0, .str p0), (2, .ptr (some (h.size, 0))), (5, .ptr (some (h1.size, 0))), (6, .ptr (some (h6.size, 0))), (7, .int .i64 x40), (8, .str x21), (9, .int .i64 x20), (10, .int .u8 x41), (113, .int .u8 x41), (127, .bool (x41 == (114 : Int)))] H (noU_all rfl) (fun fr => by kernel_rfl) ?_
                 intro fr H
                 refine at_nil ?_
                 show AW cfg 10 g (right (left (right (right (right (right (right (right (right (right (left (right (left (right (right (right (right (left (right (left (left (left (right (right (right (right (right (right (right (right (right (right (bodyC cfg.P 10))))))))))))))))))))))))))))))))) fr h23 _
                 rcases iteB_some hm with ⟨hb, hm⟩ | ⟨hb, hm⟩
                 ·replace H := H.know 127 hb (by kernel_rfl)
                  refine aw_true (x := .tmp 127) (by kernel_rfl) H (fun fr => by kernel_rfl) ?_
                  refine aw_skip (by kernel_rfl) ?_
                  exact Or.inl ⟨true, rfl, Option.some.inj hm, H.less _ (fun fr => by kernel_rfl), A⟩
                 ·replace H := H.know 127 hb (by kernel_rfl)
                  refine aw_false (x := .tmp 127) (by kernel_rfl) H (fun fr => by kernel_rfl) ?_
                  refine aw_reg (id := 36) (n := 2) [(0, []), (1, [])] (by kernel_rfl) (by kernel_rfl) ?_
                  refine at_seg [(0, []), (1, [])] [(0, .str p0), (2, .ptr (some (h.size, 0))), (5, .ptr (some (h1.size, 0))), (6, .ptr (some (h6.size, 0))), (7, .int .i64 x40), (8, .str x21), (9, .int .i64 x20), (10, .int .u8 x41), (113, .int .u8 x41), (127, .bool (x41 == (82 : Int)))] H (noU_all rfl) (fun fr => by kernel_rfl) ?_
                  intro fr H
                  refine at_nil ?_
                  exact Or.inl ⟨x41 == (82 : Int), rfl, Option.some.inj hm, H.less _ (fun fr => by kernel_rfl), A⟩
                ·clear ho
                 clear A
                 intro e fr h27 hQ
                 rcases hQ with ⟨x62, rfl, rfl, H, A⟩ | hF
                 ·skip
                  show AW cfg 10 g (right (right (right (right (right (right (right (right (right (left (right (left (right (right (right (right (left (right (left (left (left (right (right (right (right (right (right (right (right (right (right (bodyC cfg.P 10)))))))))))))))))))))))))))))))) fr h27 _
                  rcases iteB_some hm with ⟨hb, hm⟩ | ⟨hb, hm⟩
                  ·replace H := H.know 127 hb (by kernel_rfl)
                   refine aw_true (x := .tmp 127) (by kernel_rfl) H (fun fr => by kernel_rfl) ?_
                   refine aw_seq (by kernel_rfl) ?_
                   refine aw_reg (id := 37) (n := 4) [(0, []), (1, []), (2, []), (3, [])] (by kernel_rfl) (by kernel_rfl) ?_
                   refine at_seg [(0, []), (1, []), (2, [])] [(0, .str p0), (2, .ptr (some (h.size, 0))), (5, .ptr (some (h1.size, 0))), (6, .ptr (some (h6.size, 0))), (7, .int .i64 x40), (8, .str x21), (9, .int .i64 x20), (131, .bool (x41 == (114 : Int))), (132, .ptr (some (h6.size, 6)))] H (noU_all rfl) (fun fr => by kernel_rfl) ?_
                   intro fr H
                   obtain ⟨h28, hx, A1⟩ := A.st 0 rfl (o := 6) (new := [.bool (x41 == (114 : Int))]) (ds := [.str x8, .str x11, .bool x13, .bool x14, .bool x15, .int .i64 x39, .bool (x41 == (114 : Int)), .bool x18, .bool x19]) (Nat.le_of_ble_eq_true rfl) rfl rfl
                   replace A : HH g h28 [.obj h6.size (.cells none 2 [.str x8, .str x11, .bool x13, .bool x14, .bool x15, .int .i64 x39, .bool (x41 == (114 : Int)), .bool x18, .bool x19]), .obj h1.size (.cells none 2 [.str ([] : List UInt8), .str ([] : List UInt8), .bool false, .bool false, .bool false, .int .i64 (0 : Int), .bool false, .bool false, .bool false]), .obj h.size (.cells none 2 [.str ([] : List UInt8), .str ([] : List UInt8), .bool false, .bool false, .bool false, .int .i64 (0 : Int), .bool false, .bool false, .bool false])] F := A1
                   refine at_step (v := .tuple []) (h1 := h28) [(0, .str p0), (2, .ptr (some (h.size, 0))), (5, .ptr (some (h1.size, 0))), (6, .ptr (some (h6.size, 0))), (7, .int .i64 x40), (8, .str x21), (9, .int .i64 x20)] H (fun fr => by kernel_rfl) (fun fr => .of (s_st (by kernel_rfl) rfl hx)) ?_
                   intro fr t H
                   refine at_nil ?_
                   show AW cfg 10 g (right (left (right (right (right (right (right (right (right (right (right (left (right (left (right (right (right (right (left (right (left (left (left (right (right (right (right (right (right (right (right (right (right (bodyC cfg.P 10)))))))))))))))))))))))))))))))))) fr h28 _
                   refine aw_reg (id := 38) (n := 1) [(0, [])] (by kernel_rfl) (by kernel_rfl) ?_
                   refine at_seg [(0, [])] [(0, .str p0), (2, .ptr (some (h.size, 0))), (5, .ptr (some (h1.size, 0))), (6, .ptr (some (h6.size, 0))), (7, .int .i64 x40), (8, .str x21), (9, .int .i64 x20), (10, .int .u8 (114 : Int))] H (noU_all rfl) (fun fr => by kernel_rfl) ?_
                   intro fr H
                   refine at_nil ?_
                   exact Or.inl ⟨x13, x14, x15, x41 == (114 : Int), x18, x19, (114 : Int), rfl, Option.some.inj hm, H.less _ (fun fr => by kernel_rfl), A⟩
                  ·replace H := H.know 127 hb (by kernel_rfl)
                   refine aw_false (x := .tmp 127) (by kernel_rfl) H (fun fr => by kernel_rfl) ?_
                   refine aw_seq (by kernel_rfl) ?_
                   obtain ⟨o6, ho, hm⟩ := bind_some hm
                   refine aw_mono (Q' := fun e fr' h' => (∃ (x63 : Bool), e = .normal ∧ x63 = o6 ∧ Has fr' 156 [(0, .str p0), (2, .ptr (some (h.size, 0))), (5, .ptr (some (h1.size, 0))), (6, .ptr (some (h6.size, 0))), (7, .int .i64 x40), (8, .str x21), (9, .int .i64 x20), (10, .int .u8 x41), (113, .int .u8 x41), (133, .bool x63)] ∧ HH g h' [.obj h6.size (.cells none 2 [.str x8, .str x11, .bool x13, .bool x14, .bool x15, .int .i64 x39, .bool x17, .bool x18, .bool x19]), .obj h1.size (.cells none 2 [.str ([] : List UInt8), .str ([] : List UInt8), .bool false, .bool false, .bool false, .int .i64 (0 : Int), .bool false, .bool false, .bool false]), .obj h.size (.cells none 2 [.str ([] : List UInt8), .str ([] : List UInt8), .bool false, .bool false, .bool false, .int .i64 (0 : Int), .bool false, .bool false, .bool false])] F) ∨ False) ?_ ?_
                   ·replace hm := ho
                    clear ho
                    refine aw_seq (by kernel_rfl) ?_
                    refine aw_reg (id := 39) (n := 2) [(0, []), (1, [])] (by kernel_rfl) (by kernel_rfl) ?_
                    refine at_seg [(0, []), (1, [])] [(0, .str p0), (2, .ptr (some (h.size, 0))), (5, .ptr (some (h1.size, 0))), (6, .ptr (some (h6.size, 0))), (7, .int .i64 x40), (8, .str x21), (9, .int .i64 x20), (10, .int .u8 x41), (113, .int .u8 x41), (133, .bool (x41 == (115 : Int)))] H (noU_all rfl) (fun fr => by kernel_rfl) ?_
                    intro fr H
                    refine at_nil ?_
                    show AW cfg 10 g (right (left (right (right (right (right (right (right (right (right (right (right (left (right (left (right (right (right (right (left (right (left (left (left (right (right (right (right (right (right (right (right (right (right (bodyC cfg.P 10))))))))))))))))))))))))))))))))))) fr h27 _
                    rcases iteB_some hm with ⟨hb, hm⟩ | ⟨hb, hm⟩
                    ·replace H := H.know 133 hb (by kernel_rfl)
                     refine aw_true (x := .tmp 133) (by kernel_rfl) H (fun fr => by kernel_rfl) ?_
                     refine aw_skip (by kernel_rfl) ?_
                     exact Or.inl ⟨true, rfl, Option.some.inj hm, H.less _ (fun fr => by kernel_rfl), A⟩
                    ·replace H := H.know 133 hb (by kernel_rfl)
                     refine aw_false (x := .tmp 133) (by kernel_rfl) H (fun fr => by kernel_rfl) ?_
                     refine aw_reg (id := 40) (n := 2) [(0, []), (1, [])] (by kernel_rfl) (by kernel_rfl) ?_
                     refine at_seg [(0, []), (1, [])] [(0, .str p0), (2, .ptr (some (h.size, 0))), (5, .ptr (some (h1.size, 0))), (6, .ptr (some (h6.size, 0))), (7, .int .i64 x40), (8, .str x21), (9, .int .i64 x20), (10, .int .u8 x41), (113, .int .u8 x41), (133, .bool (x41 == (83 : Int)))] H (noU_all rfl) (fun fr => by kernel_rfl) ?_
                     intro fr H
                     refine at_nil ?_
                     exact Or.inl ⟨x41 == (83 : Int), rfl, Option.some.inj hm, H.less _ (fun fr => by kernel_rfl), A⟩
                   ·clear ho
                    clear A
                    intro e fr h29 hQ
                    rcases hQ with ⟨x63, rfl, rfl, H, A⟩ | hF
                    ·skip
                     show AW cfg 10 g (right (right (right (right (right (right (right (right (right (right (right (left (right (left (right (right (right (right (left (right (left (left (left (right (right (right (right (right (right (right (right (right (right (bodyC cfg.P 10)))))))))))))))))))))))))))))))))) fr h29 _
                     rcases iteB_some hm with ⟨hb, hm⟩ | ⟨hb, hm⟩
                     ·replace H := H.know 133 hb (by kernel_rfl)
                      refine aw_true (x := .tmp 133) (by kernel_rfl) H (fun fr => by kernel_rfl) ?_
                      refine aw_seq (by kernel_rfl) ?_
                      refine aw_reg (id := 41) (n := 4) [(0, []), (1, []), (2, []), (3, [])] (by kernel_rfl) (by kernel_rfl) ?_
                      refine at_seg [(0, []), (1, []), (2, [])] [(0, .str p0), (2, .ptr (some (h.size, 0))), (5, .ptr (some (h1.size, 0))), (6, .ptr (some (h6.size, 0))), (7, .int .i64 x40), (8, .str x21), (9, .int .i64 x20), (137, .bool (x41 == (115 : Int))), (138, .ptr (some (h6.size, 7)))] H (noU_all rfl) (fun fr => by kernel_rfl) ?_
                      intro fr H
                      obtain ⟨h30, hx, A1⟩ := A.st 0 rfl (o := 7) (new := [.bool (x41 == (115 : Int))]) (ds := [.str x8, .str x11, .bool x13, .bool x14, .bool x15, .int .i64 x39, .bool x17, .bool (x41 == (115 : Int)), .bool x19]) (Nat.le_of_ble_eq_true rfl) rfl rfl
                      replace A : HH g h30 [.obj h6.size (.cells none 2 [.str x8, .str x11, .bool x13, .bool x14, .bool x15, .int .i64 x39, .bool x17, .bool (x41 == (115 : Int)), .bool x19]), .obj h1.size (.cells none 2 [.str ([] : List UInt8), .str ([] : List UInt8), .bool false, .bool false, .bool false, .int .i64 (0 : Int), .bool false, .bool false, .bool false]), .obj h.size (.cells none 2 [.str ([] : List UInt8), .str ([] : List UInt8), .bool false, .bool false, .bool false, .int .i64 (0 : Int), .bool false, .bool false, .bool false])] F := A1
                      refine at_step (v := .tuple []) (h1 := h30) [(0, .str p0), (2, .ptr (some (h.size, 0))), (5, .ptr (some (h1.size, 0))), (6, .ptr (some (h6.size, 0))), (7, .int .i64 x40), (8, .str x21), (9, .int .i64 x20)] H (fun fr => by kernel_rfl) (fun fr => .of (s_st (by kernel_rfl) rfl hx)) ?_
                      intro fr t H
                      refine at_nil ?_
                      show AW cfg 10 g (right (left (right (right (right (right (right (right (right (right (right (right (right (left (right (left (right (right (right (right (left (right (left (left (left (right (right (right (right (right (right (right (right (right (right (bodyC cfg.P 10)))))))))))))))))))))))))))))))))))) fr h30 _
                      refine aw_reg (id := 42) (n := 1) [(0, [])] (by kernel_rfl) (by kernel_rfl) ?_
                      refine at_seg [(0, [])] [(0, .str p0), (2, .ptr (some (h.size, 0))), (5, .ptr (some (h1.size, 0))), (6, .ptr (some (h6.size, 0))), (7, .int .i64 x40), (8, .str x21), (9, .int .i64 x20), (10, .int .u8 (115 : Int))] H (noU_all rfl) (fun fr => by kernel_rfl) ?_
                      intro fr H
                      refine at_nil ?_
                      exact Or.inl ⟨x13, x14, x15, x17, x41 == (115 : Int), x19, (115 : Int), rfl, Option.some.inj hm, H.less _ (fun fr => by kernel_rfl), A⟩
                     ·replace H := H.know 133 hb (by kernel_rfl)
                      refine aw_false (x := .tmp 133) (by kernel_rfl) H (fun fr => by kernel_rfl) ?_
                      refine aw_seq (by kernel_rfl) ?_
                      obtain ⟨o7, ho, hm⟩ := bind_some hm
                      refine aw_mono (Q' := fun e fr' h' => (∃ (x64 : Bool), e = .normal ∧ x64 = o7 ∧ Has fr' 156 [(0, .str p0), (2, .ptr (some (h.size, 0))), (5, .ptr (some (h1.size, 0))), (6, .ptr (some (h6.size, 0))), (7, .int .i64 x40), (8, .str x21), (9, .int .i64 x20), (10, .int .u8 x41), (139, .bool x64)] ∧ HH g h' [.obj h6.size (.cells none 2 [.str x8, .str x11, .bool x13, .bool x14, .bool x15, .int .i64 x39, .bool x17, .bool x18, .bool x19]), .obj h1.size (.cells none 2 [.str ([] : List UInt8), .str ([] : List UInt8), .bool false, .bool false, .bool false, .int .i64 (0 : Int), .bool false, .bool false, .bool false]), .obj h.size (.cells none 2 [.str ([] : List UInt8), .str ([] : List UInt8), .bool false, .bool false, .bool false, .int .i64 (0 : Int), .bool false, .bool false, .bool false])] F) ∨ False) ?_ ?_
                      ·replace hm := ho
                       clear ho
                       refine aw_seq (by kernel_rfl) ?_
                       refine aw_reg (id := 43) (n := 2) [(0, []), (1, [])] (by kernel_rfl) (by kernel_rfl) ?_
                       refine at_seg [(0, []), (1, [])] [(0, .str p0), (2, .ptr (some (h.size, 0))), (5, .ptr (some (h1.size, 0))), (6, .ptr (some (h6.size, 0))), (7, .int .i64 x40), (8, .str x21), (9, .int .i64 x20), (10, .int .u8 x41), (113, .int .u8 x41), (139, .bool (x41 == (104 : Int)))] H (noU_all rfl) (fun fr => by kernel_rfl) ?_
                       intro fr H
                       refine at_nil ?_
                       show AW cfg 10 g (right (left (right (right (right (right (right (right (right (right (right (right (right (right (left (right (left (right (right (right (right (left (right (left (left (left (right (right (right (right (right (right (right (right (right (right (bodyC cfg.P 10))))))))))))))))))))))))))))))))))))) fr h29 _
                       rcases iteB_some hm with ⟨hb, hm⟩ | ⟨hb, hm⟩
                       ·replace H := H.know 139 hb (by kernel_rfl)
                        refine aw_true (x := .tmp 139) (by kernel_rfl) H (fun fr => by kernel_rfl) ?_
                        refine aw_skip (by kernel_rfl) ?_
                        exact Or.inl ⟨true, rfl, Option.some.inj hm, H.less _ (fun fr => by kernel_rfl), A⟩
                       ·replace H := H.know 139 hb (by kernel_rfl)
                        refine aw_false (x := .tmp 139) (by kernel_rfl) H (fun fr => by kernel_rfl) ?_
                        refine aw_reg (id := 44) (n := 2) [(0, []), (1, [])] (by kernel_rfl) (by kernel_rfl) ?_
                        refine at_seg [(0, []), (1, [])] [(0, .str p0), (2, .ptr (some (h.size, 0))), (5, .ptr (some (h1.size, 0))), (6, .ptr (some (h6.size, 0))), (7, .int .i64 x40), (8, .str x21), (9, .int .i64 x20), (10, .int .u8 x41), (139, .bool (x41 == (72 : Int)))] H (noU_all rfl) (fun fr => by kernel_rfl) ?_
                        intro fr H
                        refine at_nil ?_
                        exact Or.inl ⟨x41 == (72 : Int), rfl, Option.some.inj hm, H.less _ (fun fr => by kernel_rfl), A⟩
                      ·clear ho
                       clear A
                       intro e fr h31 hQ
                       rcases hQ with ⟨x64, rfl, rfl, H, A⟩ | hF
                       ·skip
                        show AW cfg 10 g (right (right (right (right (right (right (right (right (right (right (right (right (right (left (right (left (right (right (right (right (left (right (left (left (left (right (right (right (right (right (right (right (right (right (right (bodyC cfg.P 10)))))))))))))))))))))))))))))))))))) fr h31 _
                        rcases iteB_some hm with ⟨hb, hm⟩ | ⟨hb, hm⟩
                        ·replace H := H.know 139 hb (by kernel_rfl)
                         refine aw_true (x := .tmp 139) (by kernel_rfl) H (fun fr => by kernel_rfl) ?_
                         refine aw_seq (by kernel_rfl) ?_
                         refine aw_reg (id := 45) (n := 4) [(0, []), (1, []), (2, []), (3, [])] (by kernel_rfl) (by kernel_rfl) ?_
                         refine at_seg [(0, []), (1, []), (2, [])] [(0, .str p0), (2, .ptr (some (h.size, 0))), (5, .ptr (some (h1.size, 0))), (6, .ptr (some (h6.size, 0))), (7, .int .i64 x40), (8, .str x21), (9, .int .i64 x20), (143, .bool (x41 == (104 : Int))), (144, .ptr (some (h6.size, 8)))] H (noU_all rfl) (fun fr => by kernel_rfl) ?_
                         intro fr H
                         obtain ⟨h32, hx, A1⟩ := A.st 0 rfl (o := 8) (new := [.bool (x41 == (104 : Int))]) (ds := [.str x8, .str x11, .bool x13, .bool x14, .bool x15, .int .i64 x39, .bool x17, .bool x18, .bool (x41 == (104 : Int))]) (Nat.le_of_ble_eq_true rfl) rfl rfl
                         replace A : HH g h32 [.obj h6.size (.cells none 2 [.str x8, .str x11, .bool x13, .bool x14, .bool x15, .int .i64 x39, .bool x17, .bool x18, .bool (x41 == (104 : Int))]), .obj h1.size (.cells none 2 [.str ([] : List UInt8), .str ([] : List UInt8), .bool false, .bool false, .bool false, .int .i64 (0 : Int), .bool false, .bool false, .bool false]), .obj h.size (.cells none 2 [.str ([] : List UInt8), .str ([] : List UInt8), .bool false, .bool false, .bool false, .int .i64 (0 : Int), .bool false, .bool false, .bool false])] F := A1
                         refine at_step (v := .tuple []) (h1 := h32) [(0, .str p0), (2, .ptr (some (h.size, 0))), (5, .ptr (some (h1.size, 0))), (6, .ptr (some (h6.size, 0))), (7, .int .i64 x40), (8, .str x21), (9, .int .i64 x20)] H (fun fr => by kernel_rfl) (fun fr => .of (s_st (by kernel_rfl) rfl hx)) ?_
                         intro fr t H
                         refine at_nil ?_
                         show AW cfg 10 g (right (left (right (right (right (right (right (right (right (right (right (right (right (right (right (left (right (left (right (right (right (right (left (right (left (left (left (right (right (right (right (right (right (right (right (right (right (bodyC cfg.P 10)))))))))))))))))))))))))))))))))))))) fr h32 _
                         refine aw_reg (id := 46) (n := 1) [(0, [])] (by kernel_rfl) (by kernel_rfl) ?_
                         refine at_seg [(0, [])] [(0, .str p0), (2, .ptr (some (h.size, 0))), (5, .ptr (some (h1.size, 0))), (6, .ptr (some (h6.size, 0))), (7, .int .i64 x40), (8, .str x21), (9, .int .i64 x20), (10, .int .u8 (104 : Int))] H (noU_all rfl) (fun fr => by kernel_rfl) ?_
                         intro fr H
                         refine at_nil ?_
                         exact Or.inl ⟨x13, x14, x15, x17, x18, x41 == (104 : Int), (104 : Int), rfl, Option.some.inj hm, H.less _ (fun fr => by kernel_rfl), A⟩
                        ·replace H := H.know 139 hb (by kernel_rfl)
                         refine aw_false (x := .tmp 139) (by kernel_rfl) H (fun fr => by kernel_rfl) ?_
                         refine aw_seq (by kernel_rfl) ?_
                         refine aw_reg (id := 27) (n := 5) [(0, []), (1, []), (2, []), (3, []), (4, [])] (by kernel_rfl) (by kernel_rfl) ?_
                         refine at_step (v := .agg [.str ([] : List UInt8), .str ([] : List UInt8), .bool false, .bool false, .bool false, .int .i64 (0 : Int), .bool false, .bool false, .bool false]) (h1 := h31) [(2, .ptr (some (h.size, 0))), (9, .int .i64 x20), (114, .agg [.str ([] : List UInt8), .str ([] : List UInt8), .bool false, .bool false, .bool false, .int .i64 (0 : Int), .bool false, .bool false, .bool false])] H (fun fr => by kernel_rfl) (fun fr => .of (s_ldA (by kernel_rfl) (A.ldA 1 rfl (o := 0) (n := 9) ⟨Nat.le_of_ble_eq_true rfl, rfl⟩))) ?_
                         intro fr t H
                         refine at_seg [(1, [])] [(2, .ptr (some (h.size, 0))), (114, .agg [.str ([] : List UInt8), .str ([] : List UInt8), .bool false, .bool false, .bool false, .int .i64 (0 : Int), .bool false, .bool false, .bool false]), (115, .int .i64 x20)] H (noU_all rfl) (fun fr => by kernel_rfl) ?_
                         intro fr H
                         obtain ⟨h33, hx, A1⟩ := A.st 2 rfl (o := 0) (new := [.str ([] : List UInt8), .str ([] : List UInt8), .bool false, .bool false, .bool false, .int .i64 (0 : Int), .bool false, .bool false, .bool false]) (ds := [.str ([] : List UInt8), .str ([] : List UInt8), .bool false, .bool false, .bool false, .int .i64 (0 : Int), .bool false, .bool false, .bool false]) (Nat.le_of_ble_eq_true rfl) rfl rfl
                         replace A : HH g h33 [.obj h6.size (.cells none 2 [.str x8, .str x11, .bool x13, .bool x14, .bool x15, .int .i64 x39, .bool x17, .bool x18, .bool x19]), .obj h1.size (.cells none 2 [.str ([] : List UInt8), .str ([] : List UInt8), .bool false, .bool false, .bool false, .int .i64 (0 : Int), .bool false, .bool false, .bool false]), .obj h.size (.cells none 2 [.str ([] : List UInt8), .str ([] : List UInt8), .bool false, .bool false, .bool false, .int .i64 (0 : Int), .bool false, .bool false, .bool false])] F := A1
                         refine at_step (v := .tuple []) (h1 := h33) [(2, .ptr (some (h.size, 0))), (115, .int .i64 x20)] H (fun fr => by kernel_rfl) (fun fr => .of (s_stG (by kernel_rfl) (stG_st hx rfl))) ?_
                         intro fr t H
                         refine at_seg [(3, []), (4, [])] [(2, .ptr (some (h.size, 0))), (3, .int .i64 x20), (4, .int .i64 (11 : Int))] H (noU_all rfl) (fun fr => by kernel_rfl) ?_
                         intro fr H
                         refine at_nil ?_
                         show AW cfg 10 g (right (right (right (right (right (right (right (right (right (right (right (right (right (right (right (left (right (left (right (right (right (right (left (right (left (left (left (right (right (right (right (right (right (right (right (right (right (bodyC cfg.P 10)))))))))))))))))))))))))))))))))))))) fr h33 _
                         refine aw_ret (by kernel_rfl) ?_
                         exact Or.inr (Or.inl ⟨x20, (11 : Int), rfl, Option.some.inj hm, H.less _ (fun fr => by kernel_rfl), A⟩)
                       ·exact hF.elim
                    ·exact hF.elim
                 ·exact hF.elim
           ·clear ho
            clear A
            intro e fr h34 hQ
            rcases hQ with ⟨x53, x54, x55, x56, x57, x58, x59, rfl, rfl, H, A⟩ | ⟨x60, x61, rfl, rfl, H, A⟩ | hF
            ·skip
             show AW cfg 10 g (right (right (right (right (right (left (right (left (left (left (right (right (right (right (right (right (right (right (right (right (bodyC cfg.P 10))))))))))))))))))))) fr h34 _
             refine aw_seq (by kernel_rfl) ?_
             refine aw_seq (by kernel_rfl) ?_
             refine aw_reg (id := 47) (n := 3) [(0, []), (1, []), (2, [])] (by kernel_rfl) (by kernel_rfl) ?_
             refine at_seg [(0, []), (1, [])] [(0, .str p0), (2, .ptr (some (h.size, 0))), (5, .ptr (some (h1.size, 0))), (6, .ptr (some (h6.size, 0))), (7, .int .i64 x40), (8, .str x21), (9, .int .i64 x20), (10, .int .u8 x59), (145, .int .u8 x59), (146, .str x21)] H (noU_all rfl) (fun fr => by kernel_rfl) ?_
             intro fr H
             have A1 := A.cut 0
             obtain ⟨x65, hx, hm⟩ := bind_some hm
             obtain ⟨v1, h35, hr, rfl, A1⟩ := ok_boulterref13_In (av := [.int .u8 x59, .str x21]) hx (by kernel_rfl) A1
             replace A : HH g h35 [.obj h6.size (.cells none 2 [.str x8, .str x11, .bool x53, .bool x54, .bool x55, .int .i64 x39, .bool x56, .bool x57, .bool x58]), .obj h1.size (.cells none 2 [.str ([] : List UInt8), .str ([] : List UInt8), .bool false, .bool false, .bool false, .int .i64 (0 : Int), .bool false, .bool false, .bool false]), .obj h.size (.cells none 2 [.str ([] : List UInt8), .str ([] : List UInt8), .bool false, .bool false, .bool false, .int .i64 (0 : Int), .bool false, .bool false, .bool false])] F := A.glue0 (n := 0) A1
             refine at_step (v := .bool x65) (h1 := h35) [(0, .str p0), (2, .ptr (some (h.size, 0))), (5, .ptr (some (h1.size, 0))), (6, .ptr (some (h6.size, 0))), (7, .int .i64 x40), (8, .str x21), (9, .int .i64 x20), (10, .int .u8 x59), (147, .bool x65)] H (fun fr => by kernel_rfl) (fun fr => Steps.call (by kernel_rfl) hr) ?_
             intro fr t H
             refine at_nil ?_
             show AW cfg 10 g (right (left (right (right (right (right (right (left (right (left (left (left (right (right (right (right (right (right (right (right (right (right (bodyC cfg.P 10))))))))))))))))))))))) fr h35 _
             rcases iteB_some hm with ⟨hb, hm⟩ | ⟨hb, hm⟩
             ·replace H := H.know 147 hb (by kernel_rfl)
              refine aw_true (x := .tmp 147) (by kernel_rfl) H (fun fr => by kernel_rfl) ?_
              refine aw_seq (by kernel_rfl) ?_
              refine aw_reg (id := 48) (n := 5) [(0, []), (1, []), (2, []), (3, []), (4, [])] (by kernel_rfl) (by kernel_rfl) ?_
              refine at_step (v := .agg [.str ([] : List UInt8), .str ([] : List UInt8), .bool false, .bool false, .bool false, .int .i64 (0 : Int), .bool false, .bool false, .bool false]) (h1 := h35) [(2, .ptr (some (h.size, 0))), (9, .int .i64 x20), (148, .agg [.str ([] : List UInt8), .str ([] : List UInt8), .bool false, .bool false, .bool false, .int .i64 (0 : Int), .bool false, .bool false, .bool false])] H (fun fr => by kernel_rfl) (fun fr => .of (s_ldA (by kernel_rfl) (A.ldA 1 rfl (o := 0) (n := 9) ⟨Nat.le_of_ble_eq_true rfl, rfl⟩))) ?_
              intro fr t H
              refine at_seg [(1, [])] [(2, .ptr (some (h.size, 0))), (148, .agg [.str ([] : List UInt8), .str ([] : List UInt8), .bool false, .bool false, .bool false, .int .i64 (0 : Int), .bool false, .bool false, .bool false]), (149, .int .i64 x20)] H (noU_all rfl) (fun fr => by kernel_rfl) ?_
              intro fr H
              obtain ⟨h36, hx, A1⟩ := A.st 2 rfl (o := 0) (new := [.str ([] : List UInt8), .str ([] : List UInt8), .bool false, .bool false, .bool false, .int .i64 (0 : Int), .bool false, .bool false, .bool false]) (ds := [.str ([] : List UInt8), .str ([] : List UInt8), .bool false, .bool false, .bool false, .int .i64 (0 : Int), .bool false, .bool false, .bool false]) (Nat.le_of_ble_eq_true rfl) rfl rfl
              replace A : HH g h36 [.obj h6.size (.cells none 2 [.str x8, .str x11, .bool x53, .bool x54, .bool x55, .int .i64 x39, .bool x56, .bool x57, .bool x58]), .obj h1.size (.cells none 2 [.str ([] : List UInt8), .str ([] : List UInt8), .bool false, .bool false, .bool false, .int .i64 (0 : Int), .bool false, .bool false, .bool false]), .obj h.size (.cells none 2 [.str ([] : List UInt8), .str ([] : List UInt8), .bool false, .bool false, .bool false, .int .i64 (0 : Int), .bool false, .bool false, .bool false])] F := A1
              refine at_step (v := .tuple []) (h1 := h36) [(2, .ptr (some (h.size, 0))), (149, .int .i64 x20)] H (fun fr => by kernel_rfl) (fun fr => .of (s_stG (by kernel_rfl) (stG_st hx rfl))) ?_
              intro fr t H
              refine at_seg [(3, []), (4, [])] [(2, .ptr (some (h.size, 0))), (3, .int .i64 x20), (4, .int .i64 (11 : Int))] H (noU_all rfl) (fun fr => by kernel_rfl) ?_
              intro fr H
              refine at_nil ?_
              show AW cfg 10 g (right (left (right (left (right (right (right (right (right (left (right (left (left (left (right (right (right (right (right (right (right (right (right (right (bodyC cfg.P 10))))))))))))))))))))))))) fr h36 _
              refine aw_ret (by kernel_rfl) ?_
              exact Exists.intro _ (And.intro (Option.some.inj hm).symm (fun e => Or.inr (Or.inl ⟨x53, x54, x55, x39, x56, x57, x58, x20, (11 : Int), rfl, e, H.less _ (fun fr => by kernel_rfl), A⟩)))
             ·replace H := H.know 147 hb (by kernel_rfl)
              refine aw_false (x := .tmp 147) (by kernel_rfl) H (fun fr => by kernel_rfl) ?_
              refine aw_skip (by kernel_rfl) ?_
              show AW cfg 10 g (right (right (right (right (right (right (left (right (left (left (left (right (right (right (right (right (right (right (right (right (right (bodyC cfg.P 10)))))))))))))))))))))) fr h35 _
              refine aw_reg (id := 49) (n := 6) [(0, []), (1, []), (2, []), (3, []), (4, []), (5, [])] (by kernel_rfl) (by kernel_rfl) ?_
              refine at_seg [(0, []), (1, [])] [(0, .str p0), (2, .ptr (some (h.size, 0))), (5, .ptr (some (h1.size, 0))), (6, .ptr (some (h6.size, 0))), (7, .int .i64 x40), (150, .str x21), (151, .int .u8 x59)] H (noU_all rfl) (fun fr => by kernel_rfl) ?_
              intro fr H
              obtain ⟨x66, hx, hm⟩ := bind_some hm
              have hx := toY_eq hx
              have kH := hm
              have kA := A
              have kR := H
              subst hx
              have hm := kH
              have A := kA
              have H := kR
              clear kH kA kR
              obtain ⟨h37, e4⟩ : ∃ x, x = h35.push (.cells (some 5) 2 [.int .u8 (x66.toNat : Int)]) := ⟨_, rfl⟩
              replace A := (A.pushL _ _).to e4
              refine at_step (v := rowV (some h35.size) (([x66] : List UInt8).length)) (h1 := h37) [(0, .str p0), (2, .ptr (some (h.size, 0))), (5, .ptr (some (h1.size, 0))), (6, .ptr (some (h6.size, 0))), (7, .int .i64 x40), (150, .str x21), (152, rowV (some h35.size) (([x66] : List UInt8).length))] H (fun fr => by kernel_rfl) (fun fr => .of (s_n' (by kernel_rfl) (congrArg some e4.symm))) ?_
              intro fr t H
              refine at_step (v := .str ([x66] : List UInt8)) (h1 := h37) [(0, .str p0), (2, .ptr (some (h.size, 0))), (5, .ptr (some (h1.size, 0))), (6, .ptr (some (h6.size, 0))), (7, .int .i64 x40), (150, .str x21), (153, .str ([x66] : List UInt8))] H (fun fr => by kernel_rfl) (fun fr => .of (s_byO (xs := ([x66] : List UInt8)) A 0 rfl (by kernel_rfl))) ?_
              intro fr t H
              obtain ⟨hb, hm⟩ := need_some hm
              refine at_step (v := .str (x21 ++ ([x66] : List UInt8))) (h1 := h37) [(0, .str p0), (2, .ptr (some (h.size, 0))), (5, .ptr (some (h1.size, 0))), (6, .ptr (some (h6.size, 0))), (7, .int .i64 x40), (154, .str (x21 ++ ([x66] : List UInt8)))] H (fun fr => by kernel_rfl) (fun fr => .of (s_cat (by kernel_rfl) hb)) ?_
              intro fr t H
              refine at_seg [(5, [])] [(0, .str p0), (2, .ptr (some (h.size, 0))), (5, .ptr (some (h1.size, 0))), (6, .ptr (some (h6.size, 0))), (7, .int .i64 x40), (8, .str (x21 ++ ([x66] : List UInt8)))] H (noU_all rfl) (fun fr => by kernel_rfl) ?_
              intro fr H
              refine at_nil ?_
              replace A : HH g h37 [.obj h6.size (.cells none 2 [.str x8, .str x11, .bool x53, .bool x54, .bool x55, .int .i64 x39, .bool x56, .bool x57, .bool x58]), .obj h1.size (.cells none 2 [.str ([] : List UInt8), .str ([] : List UInt8), .bool false, .bool false, .bool false, .int .i64 (0 : Int), .bool false, .bool false, .bool false]), .obj h.size (.cells none 2 [.str ([] : List UInt8), .str ([] : List UInt8), .bool false, .bool false, .bool false, .int .i64 (0 : Int), .bool false, .bool false, .bool false])] F := (HH.dropF (((A.front 3 rfl).front 3 rfl).front 3 rfl) 3)
              exact Exists.intro (x53, x54, x55, x39, x56, x57, x58, x40, x21 ++ ([x66] : List UInt8)) (And.intro (Option.some.inj hm).symm ⟨x53, x54, x55, x39, x56, x57, x58, x40, x21 ++ ([x66] : List UInt8), rfl, H.less _ (fun fr => by kernel_rfl), A⟩)
            ·skip
             exact Exists.intro _ (And.intro (Option.some.inj hm).symm (fun e => Or.inr (Or.inl ⟨x13, x14, x15, x39, x17, x18, x19, x60, x61, rfl, e, H.less _ (fun fr => by kernel_rfl), A⟩)))
            ·exact hF.elim
          ·skip
           exact Exists.intro _ (And.intro (Option.some.inj hm).symm (fun e => Or.inr (Or.inl ⟨x13, x14, x15, x16, x17, x18, x19, x42, x43, rfl, e, H.less _ (fun fr => by kernel_rfl), A⟩)))
          ·exact hF.elim
        ·replace H := H.know 64 hb (by kernel_rfl)
         refine aw_false (x := .tmp 64) (by kernel_rfl) H (fun fr => by kernel_rfl) ?_
         refine aw_exit (i := 0) (by kernel_rfl) ?_
         exact Exists.intro _ (And.intro (Option.some.inj hm).symm (fun e => Or.inl ⟨x13, x14, x15, x16, x17, x18, x19, rfl, e, H.less _ (fun fr => by kernel_rfl), A⟩))
       ·clear ho
        clear A
        intro e fr h38 hQ
        rcases hQ with ⟨x22, x23, x24, x25, x26, x27, x28, rfl, rfl, H, A⟩ | ⟨x29, x30, x31, x32, x33, x34, x35, x36, x37, rfl, rfl, H, A⟩ | hF
        ·skip
         show AW cfg 10 g (right (right (right (right (right (right (right (right (right (right (right (bodyC cfg.P 10)))))))))))) fr h38 _
         refine aw_seq (by kernel_rfl) ?_
         refine aw_reg (id := 50) (n := 4) [(0, []), (1, []), (2, []), (3, [])] (by kernel_rfl) (by kernel_rfl) ?_
         refine at_step (v := .agg [.str x8, .str x11, .bool x22, .bool x23, .bool x24, .int .i64 x25, .bool x26, .bool x27, .bool x28]) (h1 := h38) [(2, .ptr (some (h.size, 0))), (155, .agg [.str x8, .str x11, .bool x22, .bool x23, .bool x24, .int .i64 x25, .bool x26, .bool x27, .bool x28])] H (fun fr => by kernel_rfl) (fun fr => .of (s_ldA (by kernel_rfl) (A.ldA 0 rfl (o := 0) (n := 9) ⟨Nat.le_of_ble_eq_true rfl, rfl⟩))) ?_
         intro fr t H
         obtain ⟨h39, hx, A1⟩ := A.st 2 rfl (o := 0) (new := [.str x8, .str x11, .bool x22, .bool x23, .bool x24, .int .i64 x25, .bool x26, .bool x27, .bool x28]) (ds := [.str x8, .str x11, .bool x22, .bool x23, .bool x24, .int .i64 x25, .bool x26, .bool x27, .bool x28]) (Nat.le_of_ble_eq_true rfl) rfl rfl
         replace A : HH g h39 [.obj h6.size (.cells none 2 [.str x8, .str x11, .bool x22, .bool x23, .bool x24, .int .i64 x25, .bool x26, .bool x27, .bool x28]), .obj h1.size (.cells none 2 [.str ([] : List UInt8), .str ([] : List UInt8), .bool false, .bool false, .bool false, .int .i64 (0 : Int), .bool false, .bool false, .bool false]), .obj h.size (.cells none 2 [.str x8, .str x11, .bool x22, .bool x23, .bool x24, .int .i64 x25, .bool x26, .bool x27, .bool x28])] F := A1
         refine at_step (v := .tuple []) (h1 := h39) [(2, .ptr (some (h.size, 0)))] H (fun fr => by kernel_rfl) (fun fr => .of (s_stG (by kernel_rfl) (stG_st hx rfl))) ?_
         intro fr t H
         refine at_seg [(2, []), (3, [])] [(2, .ptr (some (h.size, 0))), (3, .int .i64 (0 : Int)), (4, .int .i64 (0 : Int))] H (noU_all rfl) (fun fr => by kernel_rfl) ?_
         intro fr H
         refine at_nil ?_
         show AW cfg 10 g (right (right (right (right (right (right (right (right (right (right (right (right (bodyC cfg.P 10))))))))))))) fr h39 _
         refine aw_ret (by kernel_rfl) ?_
         have e0 := Option.some.inj hm
         obtain ⟨y0, z0⟩ := Prod.mk.inj e0
         obtain ⟨y1, z1⟩ := Prod.mk.inj z0
         subst y0
         subst y1
         subst z1
         refine ⟨.inl rfl, .tuple [.agg [.str x8, .str x11, .bool x22, .bool x23, .bool x24, .int .i64 x25, .bool x26, .bool x27, .bool x28], .int .i64 (0 : Int), .int .i64 (0 : Int)], resL_many (.cell (resT H (fun fr => by kernel_rfl)) (load_ldA (by kernel_rfl) (by kernel_rfl) (A.ldA 2 rfl (o := 0) (n := 9) ⟨Nat.le_of_ble_eq_true rfl, rfl⟩)) (.tmp (resT H (fun fr => by kernel_rfl)) (.tmp (resT H (fun fr => by kernel_rfl)) .nil))), ?_⟩
         replace A : HH g h39 [] F := (HH.dropF A 0)
         exact ⟨rfl, A⟩
        ·skip
         have e0 := Option.some.inj hm
         obtain ⟨y0, z0⟩ := Prod.mk.inj e0
         obtain ⟨y1, z1⟩ := Prod.mk.inj z0
         subst y0
         subst y1
         subst z1
         refine ⟨.inl rfl, .tuple [.agg [.str ([] : List UInt8), .str ([] : List UInt8), .bool false, .bool false, .bool false, .int .i64 (0 : Int), .bool false, .bool false, .bool false], .int .i64 x36, .int .i64 x37], resL_many (.cell (resT H (fun fr => by kernel_rfl)) (load_ldA (by kernel_rfl) (by kernel_rfl) (A.ldA 2 rfl (o := 0) (n := 9) ⟨Nat.le_of_ble_eq_true rfl, rfl⟩)) (.tmp (resT H (fun fr => by kernel_rfl)) (.tmp (resT H (fun fr => by kernel_rfl)) .nil))), ?_⟩
         replace A : HH g h38 [] F := (HH.dropF A 0)
         exact ⟨rfl, A⟩
        ·exact hF.elim
end Go.Av.L
