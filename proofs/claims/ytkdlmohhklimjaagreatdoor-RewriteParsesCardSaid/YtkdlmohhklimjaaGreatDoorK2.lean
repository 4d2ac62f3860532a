/-
 Models of functions, and that the abstract run tells them. Written by lift2.py.
-/
import Derived.Test.YtkdlmohhklimjaaGreatDoorKCfg
import Derived.Test.YtkdlmohhklimjaaGreatDoorK0
import Derived.Test.YtkdlmohhklimjaaGreatDoorK1
namespace Go.Av.L
open Go.Av Go.Lib
set_option maxRecDepth 10000
set_option linter.unusedVariables false
set_option linter.unusedSimpArgs false
/-! ### boulter/rewrite.Parse -/
noncomputable def M_rewrite_Parse (p0 : List UInt8) : Option (S_rewrite_Expr × Int × Int) :=
 (M_rewrite_begins p0 (0 : Int)).bind fun x1 => iteB (!x1) (some ((⟨([] : List UInt8), ([] : List UInt8), false, false, false, (0 : Int), false, false, false⟩ : S_rewrite_Expr), (0 : Int), (11 : Int))) ((ixS p0 (1 : Int)).bind fun x2 => (M_rewrite_part p0 (2 : Int) x2).bind fun (x3, x4, x5) => iteB (!x5) (some ((⟨([] : List UInt8), ([] : List UInt8), false, false, false, (0 : Int), false, false, false⟩ : S_rewrite_Expr), x4, (11 : Int))) ((ixS p0 (1 : Int)).bind fun x6 => (M_rewrite_part p0 x4 x6).bind fun (x7, x8, x9) => iteB (!x9) (some ((⟨([] : List UInt8), ([] : List UInt8), false, false, false, (0 : Int), false, false, false⟩ : S_rewrite_Expr), x8, (11 : Int))) ((M_rewrite_Expr_flags (⟨x3, x7, false, false, false, (1 : Int), true, true, true⟩ : S_rewrite_Expr) p0 x8).bind fun (x10, x11) => iteB (decide (x10 ≥ (0 : Int))) (some ((⟨([] : List UInt8), ([] : List UInt8), false, false, false, (0 : Int), false, false, false⟩ : S_rewrite_Expr), x10, (11 : Int))) (some (x11, (0 : Int), (0 : Int))))))
theorem ok_rewrite_Parse {g : Gd} {h : AHeap} {F : List Ck} {p0 : List UInt8} {q0 : S_rewrite_Expr} {q1 : Int} {q2 : Int} {av : List AVal} (hm : M_rewrite_Parse p0 = some (q0, q1, q2)) (hc : canL (cfg.still 9) av = [.str p0]) (A : HH g h [] F) : ∃ v h', Runs cfg g h 9 av v h' ∧ v = .tuple [.agg [.str q0.Re, .str q0.Template, .bool q0.Global, .bool q0.Fold, .bool q0.Extended, .int .i64 q0.Number, .bool q0.Names, .bool q0.Soft, .bool q0.Hard], .int .i64 q1, .int .i64 q2] ∧ HH g h' [] F := by
 refine runsQ1 (n := 48) (rs := [.cell 2 24, .tmp 3, .tmp 4]) (by kernel_rfl) hc (by kernel_rfl) ?_
 clear hc
 unfold M_rewrite_Parse at hm
 refine start (n := 48) [(0, .str p0)] (by kernel_rfl) (by kernel_rfl) ?_
 intro fr H
 refine aw_seq (by kernel_rfl) ?_
 refine aw_reg (id := 0) (n := 3) [(0, []), (1, []), (2, [])] (by kernel_rfl) (by kernel_rfl) ?_
 obtain ⟨h1, e1⟩ : ∃ x, x = h.push (.cells none 2 [.str ([] : List UInt8), .str ([] : List UInt8), .bool false, .bool false, .bool false, .int .i64 (0 : Int), .bool false, .bool false, .bool false]) := ⟨_, rfl⟩
 replace A := (A.push _).to e1
 refine at_step (v := .ptr (some (h.size, 0))) (h1 := h1) [(0, .str p0), (2, .ptr (some (h.size, 0)))] H (fun fr => by kernel_rfl) (fun fr => .of (s_n' (by kernel_rfl) (congrArg some e1.symm))) ?_
 intro fr t H
 refine at_seg [(1, []), (2, [])] [(0, .str p0), (2, .ptr (some (h.size, 0)))] H (noU_all rfl) (fun fr => by kernel_rfl) ?_
 intro fr H
 refine at_nil ?_
 show AW cfg 9 g (right (bodyC cfg.P 9)) fr h1 _
 refine aw_seq (by kernel_rfl) ?_
 refine aw_seq (by kernel_rfl) ?_
 refine aw_reg (id := 1) (n := 3) [(0, []), (1, []), (2, [])] (by kernel_rfl) (by kernel_rfl) ?_
 refine at_seg [(0, [])] [(0, .str p0), (2, .ptr (some (h.size, 0))), (11, .str p0)] H (noU_all rfl) (fun fr => by kernel_rfl) ?_
 intro fr H
 have A1 := A.cut 0
 obtain ⟨x1, hx, hm⟩ := bind_some hm
 obtain ⟨v1, h2, hr, rfl, A1⟩ := ok_rewrite_begins (av := [.str p0, .int .i64 (0 : Int)]) hx (by kernel_rfl) A1
 replace A : HH g h2 [.obj h.size (.cells none 2 [.str ([] : List UInt8), .str ([] : List UInt8), .bool false, .bool false, .bool false, .int .i64 (0 : Int), .bool false, .bool false, .bool false])] F := A.glue0 (n := 0) A1
 refine at_step (v := .bool x1) (h1 := h2) [(0, .str p0), (2, .ptr (some (h.size, 0))), (12, .bool x1)] H (fun fr => by kernel_rfl) (fun fr => Steps.call (by kernel_rfl) hr) ?_
 intro fr t H
 refine at_seg [(2, [])] [(0, .str p0), (2, .ptr (some (h.size, 0))), (13, .bool (!x1))] H (noU_all rfl) (fun fr => by kernel_rfl) ?_
 intro fr H
 refine at_nil ?_
 show AW cfg 9 g (right (left (right (bodyC cfg.P 9)))) fr h2 _
 rcases iteB_some hm with ⟨hb, hm⟩ | ⟨hb, hm⟩
 ·replace H := H.know 13 hb (by kernel_rfl)
  refine aw_true (x := .tmp 13) (by kernel_rfl) H (fun fr => by kernel_rfl) ?_
  refine aw_seq (by kernel_rfl) ?_
  refine aw_reg (id := 2) (n := 4) [(0, []), (1, []), (2, []), (3, [])] (by kernel_rfl) (by kernel_rfl) ?_
  refine at_seg [(0, [])] [(2, .ptr (some (h.size, 0))), (14, .agg [.str ([] : List UInt8), .str ([] : List UInt8), .bool false, .bool false, .bool false, .int .i64 (0 : Int), .bool false, .bool false, .bool false])] H (noU_all rfl) (fun fr => by kernel_rfl) ?_
  intro fr H
  obtain ⟨h3, hx, A1⟩ := A.st 0 rfl (o := 0) (new := [.str ([] : List UInt8), .str ([] : List UInt8), .bool false, .bool false, .bool false, .int .i64 (0 : Int), .bool false, .bool false, .bool false]) (ds := [.str ([] : List UInt8), .str ([] : List UInt8), .bool false, .bool false, .bool false, .int .i64 (0 : Int), .bool false, .bool false, .bool false]) (Nat.le_of_ble_eq_true rfl) rfl rfl
  replace A : HH g h3 [.obj h.size (.cells none 2 [.str ([] : List UInt8), .str ([] : List UInt8), .bool false, .bool false, .bool false, .int .i64 (0 : Int), .bool false, .bool false, .bool false])] F := A1
  refine at_step (v := .tuple []) (h1 := h3) [(2, .ptr (some (h.size, 0)))] H (fun fr => by kernel_rfl) (fun fr => .of (s_stG (by kernel_rfl) (stG_st hx rfl))) ?_
  intro fr t H
  refine at_seg [(2, []), (3, [])] [(2, .ptr (some (h.size, 0))), (3, .int .i64 (0 : Int)), (4, .int .i64 (11 : Int))] H (noU_all rfl) (fun fr => by kernel_rfl) ?_
  intro fr H
  refine at_nil ?_
  show AW cfg 9 g (right (left (right (left (right (bodyC cfg.P 9)))))) fr h3 _
  refine aw_ret (by kernel_rfl) ?_
  have e0 := Option.some.inj hm
  obtain ⟨y0, z0⟩ := Prod.mk.inj e0
  obtain ⟨y1, z1⟩ := Prod.mk.inj z0
  subst y0
  subst y1
  subst z1
  refine ⟨.inl rfl, .tuple [.agg [.str ([] : List UInt8), .str ([] : List UInt8), .bool false, .bool false, .bool false, .int .i64 (0 : Int), .bool false, .bool false, .bool false], .int .i64 (0 : Int), .int .i64 (11 : Int)], resL_many (.cell (resT H (fun fr => by kernel_rfl)) (load_ldA (by kernel_rfl) (by kernel_rfl) (A.ldA 0 rfl (o := 0) (n := 9) ⟨Nat.le_of_ble_eq_true rfl, rfl⟩)) (.tmp (resT H (fun fr => by kernel_rfl)) (.tmp (resT H (fun fr => by kernel_rfl)) .nil))), ?_⟩
  replace A : HH g h3 [] F := (HH.dropF A 0)
  exact ⟨rfl, A⟩
 ·replace H := H.know 13 hb (by kernel_rfl)
  refine aw_false (x := .tmp 13) (by kernel_rfl) H (fun fr => by kernel_rfl) ?_
  refine aw_skip (by kernel_rfl) ?_
  show AW cfg 9 g (right (right (bodyC cfg.P 9))) fr h2 _
  refine aw_seq (by kernel_rfl) ?_
  refine aw_reg (id := 3) (n := 3) [(0, []), (1, []), (2, [])] (by kernel_rfl) (by kernel_rfl) ?_
  refine at_seg [(0, [])] [(0, .str p0), (2, .ptr (some (h.size, 0))), (15, .agg [.str ([] : List UInt8), .str ([] : List UInt8), .bool false, .bool false, .bool false, .int .i64 (1 : Int), .bool true, .bool true, .bool true])] H (noU_all rfl) (fun fr => by kernel_rfl) ?_
  intro fr H
  obtain ⟨h4, e2⟩ : ∃ x, x = h2.push (.cells none 2 [.str ([] : List UInt8), .str ([] : List UInt8), .bool false, .bool false, .bool false, .int .i64 (0 : Int), .bool false, .bool false, .bool false]) := ⟨_, rfl⟩
  replace A := (A.push _).to e2
  refine at_step (v := .ptr (some (h2.size, 0))) (h1 := h4) [(0, .str p0), (2, .ptr (some (h.size, 0))), (5, .ptr (some (h2.size, 0))), (15, .agg [.str ([] : List UInt8), .str ([] : List UInt8), .bool false, .bool false, .bool false, .int .i64 (1 : Int), .bool true, .bool true, .bool true])] H (fun fr => by kernel_rfl) (fun fr => .of (s_n' (by kernel_rfl) (congrArg some e2.symm))) ?_
  intro fr t H
  obtain ⟨h5, hx, A1⟩ := A.st 0 rfl (o := 0) (new := [.str ([] : List UInt8), .str ([] : List UInt8), .bool false, .bool false, .bool false, .int .i64 (1 : Int), .bool true, .bool true, .bool true]) (ds := [.str ([] : List UInt8), .str ([] : List UInt8), .bool false, .bool false, .bool false, .int .i64 (1 : Int), .bool true, .bool true, .bool true]) (Nat.le_of_ble_eq_true rfl) rfl rfl
  replace A : HH g h5 [.obj h2.size (.cells none 2 [.str ([] : List UInt8), .str ([] : List UInt8), .bool false, .bool false, .bool false, .int .i64 (1 : Int), .bool true, .bool true, .bool true]), .obj h.size (.cells none 2 [.str ([] : List UInt8), .str ([] : List UInt8), .bool false, .bool false, .bool false, .int .i64 (0 : Int), .bool false, .bool false, .bool false])] F := A1
  refine at_step (v := .tuple []) (h1 := h5) [(0, .str p0), (2, .ptr (some (h.size, 0))), (5, .ptr (some (h2.size, 0)))] H (fun fr => by kernel_rfl) (fun fr => .of (s_stG (by kernel_rfl) (stG_st hx rfl))) ?_
  intro fr t H
  refine at_nil ?_
  show AW cfg 9 g (right (right (right (bodyC cfg.P 9)))) fr h5 _
  refine aw_seq (by kernel_rfl) ?_
  refine aw_reg (id := 4) (n := 2) [(0, []), (1, [])] (by kernel_rfl) (by kernel_rfl) ?_
  refine at_seg [(0, []), (1, [])] [(0, .str p0), (2, .ptr (some (h.size, 0))), (5, .ptr (some (h2.size, 0))), (6, .int .i64 (2 : Int))] H (noU_all rfl) (fun fr => by kernel_rfl) ?_
  intro fr H
  refine at_nil ?_
  show AW cfg 9 g (right (right (right (right (bodyC cfg.P 9))))) fr h5 _
  refine aw_seq (by kernel_rfl) ?_
  refine aw_seq (by kernel_rfl) ?_
  refine aw_reg (id := 5) (n := 5) [(0, []), (1, []), (2, []), (3, []), (4, [])] (by kernel_rfl) (by kernel_rfl) ?_
  refine at_seg [(0, []), (1, [])] [(0, .str p0), (2, .ptr (some (h.size, 0))), (5, .ptr (some (h2.size, 0))), (6, .int .i64 (2 : Int)), (16, .ptr (some (h2.size, 0))), (17, .ptr (some (h2.size, 1)))] H (noU_all rfl) (fun fr => by kernel_rfl) ?_
  intro fr H
  obtain ⟨h6, e3⟩ : ∃ x, x = h5.push (.cells (some 63) 2 [.ptr (some (h2.size, 0)), .ptr (some (h2.size, 1))]) := ⟨_, rfl⟩
  replace A : HH g h6 [.obj h5.size (.cells (some 63) 2 [.ptr (some (h2.size, 0)), .ptr (some (h2.size, 1))]), .obj h2.size (.cells none 2 [.str ([] : List UInt8), .str ([] : List UInt8), .bool false, .bool false, .bool false, .int .i64 (1 : Int), .bool true, .bool true, .bool true]), .obj h.size (.cells none 2 [.str ([] : List UInt8), .str ([] : List UInt8), .bool false, .bool false, .bool false, .int .i64 (0 : Int), .bool false, .bool false, .bool false])] F := (A.push _).to e3
  refine at_step (v := .slice (some (h5.size, 0)) 2) (h1 := h6) [(0, .str p0), (2, .ptr (some (h.size, 0))), (5, .ptr (some (h2.size, 0))), (6, .int .i64 (2 : Int)), (18, .slice (some (h5.size, 0)) 2)] H (fun fr => by kernel_rfl) (fun fr => .of (s_n' (by kernel_rfl) (congrArg some e3.symm))) ?_
  intro fr t H
  refine at_seg [(3, []), (4, [])] [(0, .str p0), (2, .ptr (some (h.size, 0))), (5, .ptr (some (h2.size, 0))), (6, .int .i64 (2 : Int)), (18, .slice (some (h5.size, 0)) 2), (19, .int .i64 (2 : Int)), (20, .int .i64 (0 : Int))] H (noU_all rfl) (fun fr => by kernel_rfl) ?_
  intro fr H
  refine at_nil ?_
  show AW cfg 9 g (right (left (right (right (right (right (bodyC cfg.P 9))))))) fr h6 _
  refine aw_block (id := 0) (by kernel_rfl) ?_
  refine aw_unroll (by kernel_rfl) ?_
  refine aw_seq (by kernel_rfl) ?_
  refine aw_reg (id := 6) (n := 1) [(0, [])] (by kernel_rfl) (by kernel_rfl) ?_
  refine at_seg [(0, [])] [(0, .str p0), (2, .ptr (some (h.size, 0))), (5, .ptr (some (h2.size, 0))), (6, .int .i64 (2 : Int)), (18, .slice (some (h5.size, 0)) 2), (19, .int .i64 (2 : Int)), (20, .int .i64 (0 : Int)), (21, .bool true)] H (noU_all rfl) (fun fr => by kernel_rfl) ?_
  intro fr H
  refine at_nil ?_
  show AW cfg 9 g (right (left (left (right (left (right (right (right (right (bodyC cfg.P 9)))))))))) fr h6 _
  refine aw_seq (by kernel_rfl) ?_
  refine aw_true (x := .tmp 21) (by kernel_rfl) H (fun fr => by kernel_rfl) ?_
  refine aw_skip (by kernel_rfl) ?_
  show AW cfg 9 g (right (right (left (left (right (left (right (right (right (right (bodyC cfg.P 9))))))))))) fr h6 _
  refine aw_seq (by kernel_rfl) ?_
  refine aw_block (id := 1) (by kernel_rfl) ?_
  refine aw_seq (by kernel_rfl) ?_
  refine aw_reg (id := 7) (n := 3) [(0, []), (1, []), (2, [])] (by kernel_rfl) (by kernel_rfl) ?_
  refine at_seg [(0, [])] [(0, .str p0), (2, .ptr (some (h.size, 0))), (5, .ptr (some (h2.size, 0))), (6, .int .i64 (2 : Int)), (18, .slice (some (h5.size, 0)) 2), (19, .int .i64 (2 : Int)), (20, .int .i64 (0 : Int)), (22, .ptr (some (h5.size, 0)))] H (noU_all rfl) (fun fr => by kernel_rfl) ?_
  intro fr H
  refine at_step (v := .ptr (some (h2.size, 0))) (h1 := h6) [(0, .str p0), (2, .ptr (some (h.size, 0))), (5, .ptr (some (h2.size, 0))), (6, .int .i64 (2 : Int)), (18, .slice (some (h5.size, 0)) 2), (19, .int .i64 (2 : Int)), (20, .int .i64 (0 : Int)), (23, .ptr (some (h2.size, 0)))] H (fun fr => by kernel_rfl) (fun fr => .of (s_ld (by kernel_rfl) (A.ld1 0 rfl (o := 0) rfl))) ?_
  intro fr t H
  refine at_seg [(2, [])] [(0, .str p0), (2, .ptr (some (h.size, 0))), (5, .ptr (some (h2.size, 0))), (6, .int .i64 (2 : Int)), (9, .ptr (some (h2.size, 0))), (18, .slice (some (h5.size, 0)) 2), (19, .int .i64 (2 : Int)), (20, .int .i64 (0 : Int))] H (noU_all rfl) (fun fr => by kernel_rfl) ?_
  intro fr H
  refine at_nil ?_
  show AW cfg 9 g (right (left (left (right (right (left (left (right (left (right (right (right (right (bodyC cfg.P 9)))))))))))))) fr h6 _
  refine aw_seq (by kernel_rfl) ?_
  refine aw_reg (id := 8) (n := 14) [(0, []), (1, []), (2, []), (3, []), (4, []), (5, []), (6, []), (7, []), (8, []), (9, []), (10, []), (11, []), (12, []), (13, [])] (by kernel_rfl) (by kernel_rfl) ?_
  refine at_seg [(0, []), (1, []), (2, []), (3, [])] [(0, .str p0), (2, .ptr (some (h.size, 0))), (5, .ptr (some (h2.size, 0))), (18, .slice (some (h5.size, 0)) 2), (19, .int .i64 (2 : Int)), (20, .int .i64 (0 : Int)), (25, .ptr (some (h2.size, 0))), (26, .str p0), (27, .int .i64 (2 : Int)), (28, .str p0)] H (noU_all rfl) (fun fr => by kernel_rfl) ?_
  intro fr H
  obtain ⟨x2, hx, hm⟩ := bind_some hm
  refine at_step (v := .int .u8 x2) (h1 := h6) [(0, .str p0), (2, .ptr (some (h.size, 0))), (5, .ptr (some (h2.size, 0))), (18, .slice (some (h5.size, 0)) 2), (19, .int .i64 (2 : Int)), (20, .int .i64 (0 : Int)), (25, .ptr (some (h2.size, 0))), (26, .str p0), (27, .int .i64 (2 : Int)), (29, .int .u8 x2)] H (fun fr => by kernel_rfl) (fun fr => .of (s_ixS (by kernel_rfl) hx)) ?_
  intro fr t H
  have A1 := A.cut 0
  obtain ⟨⟨x3, x4, x5⟩, hx, hm⟩ := bind_some hm
  obtain ⟨v1, h7, hr, rfl, A1⟩ := ok_rewrite_part (av := [.str p0, .int .i64 (2 : Int), .int .u8 x2]) hx (by kernel_rfl) A1
  replace A : HH g h7 [.obj h5.size (.cells (some 63) 2 [.ptr (some (h2.size, 0)), .ptr (some (h2.size, 1))]), .obj h2.size (.cells none 2 [.str ([] : List UInt8), .str ([] : List UInt8), .bool false, .bool false, .bool false, .int .i64 (1 : Int), .bool true, .bool true, .bool true]), .obj h.size (.cells none 2 [.str ([] : List UInt8), .str ([] : List UInt8), .bool false, .bool false, .bool false, .int .i64 (0 : Int), .bool false, .bool false, .bool false])] F := A.glue0 (n := 0) A1
  refine at_step (v := .tuple [.str x3, .int .i64 x4, .bool x5]) (h1 := h7) [(0, .str p0), (2, .ptr (some (h.size, 0))), (5, .ptr (some (h2.size, 0))), (18, .slice (some (h5.size, 0)) 2), (19, .int .i64 (2 : Int)), (20, .int .i64 (0 : Int)), (25, .ptr (some (h2.size, 0))), (30, .tuple [.str x3, .int .i64 x4, .bool x5])] H (fun fr => by kernel_rfl) (fun fr => Steps.call (by kernel_rfl) hr) ?_
  intro fr t H
  refine at_seg [(6, []), (7, []), (8, []), (9, []), (10, [])] [(0, .str p0), (2, .ptr (some (h.size, 0))), (5, .ptr (some (h2.size, 0))), (18, .slice (some (h5.size, 0)) 2), (19, .int .i64 (2 : Int)), (20, .int .i64 (0 : Int)), (31, .str x3), (32, .int .i64 x4), (33, .bool x5), (34, .ptr (some (h2.size, 0)))] H (noU_all rfl) (fun fr => by kernel_rfl) ?_
  intro fr H
  obtain ⟨h8, hx, A1⟩ := A.st 1 rfl (o := 0) (new := [.str x3]) (ds := [.str x3, .str ([] : List UInt8), .bool false, .bool false, .bool false, .int .i64 (1 : Int), .bool true, .bool true, .bool true]) (Nat.le_of_ble_eq_true rfl) rfl rfl
  replace A : HH g h8 [.obj h5.size (.cells (some 63) 2 [.ptr (some (h2.size, 0)), .ptr (some (h2.size, 1))]), .obj h2.size (.cells none 2 [.str x3, .str ([] : List UInt8), .bool false, .bool false, .bool false, .int .i64 (1 : Int), .bool true, .bool true, .bool true]), .obj h.size (.cells none 2 [.str ([] : List UInt8), .str ([] : List UInt8), .bool false, .bool false, .bool false, .int .i64 (0 : Int), .bool false, .bool false, .bool false])] F := A1
  refine at_step (v := .tuple []) (h1 := h8) [(0, .str p0), (2, .ptr (some (h.size, 0))), (5, .ptr (some (h2.size, 0))), (18, .slice (some (h5.size, 0)) 2), (19, .int .i64 (2 : Int)), (20, .int .i64 (0 : Int)), (32, .int .i64 x4), (33, .bool x5)] H (fun fr => by kernel_rfl) (fun fr => .of (s_st (by kernel_rfl) rfl hx)) ?_
  intro fr t H
  refine at_seg [(12, []), (13, [])] [(0, .str p0), (2, .ptr (some (h.size, 0))), (5, .ptr (some (h2.size, 0))), (6, .int .i64 x4), (7, .bool x5), (18, .slice (some (h5.size, 0)) 2), (19, .int .i64 (2 : Int)), (20, .int .i64 (0 : Int))] H (noU_all rfl) (fun fr => by kernel_rfl) ?_
  intro fr H
  refine at_nil ?_
  show AW cfg 9 g (right (right (left (left (right (right (left (left (right (left (right (right (right (right (bodyC cfg.P 9))))))))))))))) fr h8 _
  refine aw_seq (by kernel_rfl) ?_
  refine aw_reg (id := 9) (n := 2) [(0, []), (1, [])] (by kernel_rfl) (by kernel_rfl) ?_
  refine at_seg [(0, []), (1, [])] [(0, .str p0), (2, .ptr (some (h.size, 0))), (5, .ptr (some (h2.size, 0))), (6, .int .i64 x4), (18, .slice (some (h5.size, 0)) 2), (19, .int .i64 (2 : Int)), (20, .int .i64 (0 : Int)), (36, .bool (!x5))] H (noU_all rfl) (fun fr => by kernel_rfl) ?_
  intro fr H
  refine at_nil ?_
  show AW cfg 9 g (right (right (right (left (left (right (right (left (left (right (left (right (right (right (right (bodyC cfg.P 9)))))))))))))))) fr h8 _
  rcases iteB_some hm with ⟨hb, hm⟩ | ⟨hb, hm⟩
  ·replace H := H.know 36 hb (by kernel_rfl)
   refine aw_true (x := .tmp 36) (by kernel_rfl) H (fun fr => by kernel_rfl) ?_
   refine aw_seq (by kernel_rfl) ?_
   refine aw_reg (id := 10) (n := 5) [(0, []), (1, []), (2, []), (3, []), (4, [])] (by kernel_rfl) (by kernel_rfl) ?_
   refine at_seg [(0, []), (1, [])] [(2, .ptr (some (h.size, 0))), (37, .agg [.str ([] : List UInt8), .str ([] : List UInt8), .bool false, .bool false, .bool false, .int .i64 (0 : Int), .bool false, .bool false, .bool false]), (38, .int .i64 x4)] H (noU_all rfl) (fun fr => by kernel_rfl) ?_
   intro fr H
   obtain ⟨h9, hx, A1⟩ := A.st 2 rfl (o := 0) (new := [.str ([] : List UInt8), .str ([] : List UInt8), .bool false, .bool false, .bool false, .int .i64 (0 : Int), .bool false, .bool false, .bool false]) (ds := [.str ([] : List UInt8), .str ([] : List UInt8), .bool false, .bool false, .bool false, .int .i64 (0 : Int), .bool false, .bool false, .bool false]) (Nat.le_of_ble_eq_true rfl) rfl rfl
   replace A : HH g h9 [.obj h5.size (.cells (some 63) 2 [.ptr (some (h2.size, 0)), .ptr (some (h2.size, 1))]), .obj h2.size (.cells none 2 [.str x3, .str ([] : List UInt8), .bool false, .bool false, .bool false, .int .i64 (1 : Int), .bool true, .bool true, .bool true]), .obj h.size (.cells none 2 [.str ([] : List UInt8), .str ([] : List UInt8), .bool false, .bool false, .bool false, .int .i64 (0 : Int), .bool false, .bool false, .bool false])] F := A1
   refine at_step (v := .tuple []) (h1 := h9) [(2, .ptr (some (h.size, 0))), (38, .int .i64 x4)] H (fun fr => by kernel_rfl) (fun fr => .of (s_stG (by kernel_rfl) (stG_st hx rfl))) ?_
   intro fr t H
   refine at_seg [(3, []), (4, [])] [(2, .ptr (some (h.size, 0))), (3, .int .i64 x4), (4, .int .i64 (11 : Int))] H (noU_all rfl) (fun fr => by kernel_rfl) ?_
   intro fr H
   refine at_nil ?_
   show AW cfg 9 g (right (left (right (right (right (left (left (right (right (left (left (right (left (right (right (right (right (bodyC cfg.P 9)))))))))))))))))) fr h9 _
   refine aw_ret (by kernel_rfl) ?_
   have e0 := Option.some.inj hm
   obtain ⟨y0, z0⟩ := Prod.mk.inj e0
   obtain ⟨y1, z1⟩ := Prod.mk.inj z0
   subst y0
   subst y1
   subst z1
   refine ⟨.inl rfl, .tuple [.agg [.str ([] : List UInt8), .str ([] : List UInt8), .bool false, .bool false, .bool false, .int .i64 (0 : Int), .bool false, .bool false, .bool false], .int .i64 x4, .int .i64 (11 : Int)], resL_many (.cell (resT H (fun fr => by kernel_rfl)) (load_ldA (by kernel_rfl) (by kernel_rfl) (A.ldA 2 rfl (o := 0) (n := 9) ⟨Nat.le_of_ble_eq_true rfl, rfl⟩)) (.tmp (resT H (fun fr => by kernel_rfl)) (.tmp (resT H (fun fr => by kernel_rfl)) .nil))), ?_⟩
   replace A : HH g h9 [] F := (HH.dropF A 0)
   exact ⟨rfl, A⟩
  ·replace H := H.know 36 hb (by kernel_rfl)
   refine aw_false (x := .tmp 36) (by kernel_rfl) H (fun fr => by kernel_rfl) ?_
   refine aw_skip (by kernel_rfl) ?_
   show AW cfg 9 g (right (right (right (left (left (right (left (right (right (right (right (bodyC cfg.P 9)))))))))))) fr h8 _
   refine aw_reg (id := 11) (n := 2) [(0, []), (1, [])] (by kernel_rfl) (by kernel_rfl) ?_
   refine at_seg [(0, []), (1, [])] [(0, .str p0), (2, .ptr (some (h.size, 0))), (5, .ptr (some (h2.size, 0))), (6, .int .i64 x4), (18, .slice (some (h5.size, 0)) 2), (19, .int .i64 (2 : Int)), (20, .int .i64 (1 : Int))] H (noU_all rfl) (fun fr => by kernel_rfl) ?_
   intro fr H
   refine at_nil ?_
   show AW cfg 9 g (left (right (left (right (right (right (right (bodyC cfg.P 9)))))))) fr h8 _
   refine aw_unroll (by kernel_rfl) ?_
   refine aw_seq (by kernel_rfl) ?_
   refine aw_reg (id := 6) (n := 1) [(0, [])] (by kernel_rfl) (by kernel_rfl) ?_
   refine at_seg [(0, [])] [(0, .str p0), (2, .ptr (some (h.size, 0))), (5, .ptr (some (h2.size, 0))), (6, .int .i64 x4), (18, .slice (some (h5.size, 0)) 2), (19, .int .i64 (2 : Int)), (20, .int .i64 (1 : Int)), (21, .bool true)] H (noU_all rfl) (fun fr => by kernel_rfl) ?_
   intro fr H
   refine at_nil ?_
   show AW cfg 9 g (right (left (left (right (left (right (right (right (right (bodyC cfg.P 9)))))))))) fr h8 _
   refine aw_seq (by kernel_rfl) ?_
   refine aw_true (x := .tmp 21) (by kernel_rfl) H (fun fr => by kernel_rfl) ?_
   refine aw_skip (by kernel_rfl) ?_
   show AW cfg 9 g (right (right (left (left (right (left (right (right (right (right (bodyC cfg.P 9))))))))))) fr h8 _
   refine aw_seq (by kernel_rfl) ?_
   refine aw_block (id := 1) (by kernel_rfl) ?_
   refine aw_seq (by kernel_rfl) ?_
   refine aw_reg (id := 7) (n := 3) [(0, []), (1, []), (2, [])] (by kernel_rfl) (by kernel_rfl) ?_
   refine at_seg [(0, [])] [(0, .str p0), (2, .ptr (some (h.size, 0))), (5, .ptr (some (h2.size, 0))), (6, .int .i64 x4), (18, .slice (some (h5.size, 0)) 2), (19, .int .i64 (2 : Int)), (20, .int .i64 (1 : Int)), (22, .ptr (some (h5.size, 1)))] H (noU_all rfl) (fun fr => by kernel_rfl) ?_
   intro fr H
   refine at_step (v := .ptr (some (h2.size, 1))) (h1 := h8) [(0, .str p0), (2, .ptr (some (h.size, 0))), (5, .ptr (some (h2.size, 0))), (6, .int .i64 x4), (18, .slice (some (h5.size, 0)) 2), (19, .int .i64 (2 : Int)), (20, .int .i64 (1 : Int)), (23, .ptr (some (h2.size, 1)))] H (fun fr => by kernel_rfl) (fun fr => .of (s_ld (by kernel_rfl) (A.ld1 0 rfl (o := 1) rfl))) ?_
   intro fr t H
   refine at_seg [(2, [])] [(0, .str p0), (2, .ptr (some (h.size, 0))), (5, .ptr (some (h2.size, 0))), (6, .int .i64 x4), (9, .ptr (some (h2.size, 1))), (18, .slice (some (h5.size, 0)) 2), (19, .int .i64 (2 : Int)), (20, .int .i64 (1 : Int))] H (noU_all rfl) (fun fr => by kernel_rfl) ?_
   intro fr H
   refine at_nil ?_
   show AW cfg 9 g (right (left (left (right (right (left (left (right (left (right (right (right (right (bodyC cfg.P 9)))))))))))))) fr h8 _
   refine aw_seq (by kernel_rfl) ?_
   refine aw_reg (id := 8) (n := 14) [(0, []), (1, []), (2, []), (3, []), (4, []), (5, []), (6, []), (7, []), (8, []), (9, []), (10, []), (11, []), (12, []), (13, [])] (by kernel_rfl) (by kernel_rfl) ?_
   refine at_seg [(0, []), (1, []), (2, []), (3, [])] [(0, .str p0), (2, .ptr (some (h.size, 0))), (5, .ptr (some (h2.size, 0))), (18, .slice (some (h5.size, 0)) 2), (19, .int .i64 (2 : Int)), (20, .int .i64 (1 : Int)), (25, .ptr (some (h2.size, 1))), (26, .str p0), (27, .int .i64 x4), (28, .str p0)] H (noU_all rfl) (fun fr => by kernel_rfl) ?_
   intro fr H
   obtain ⟨x6, hx, hm⟩ := bind_some hm
   refine at_step (v := .int .u8 x6) (h1 := h8) [(0, .str p0), (2, .ptr (some (h.size, 0))), (5, .ptr (some (h2.size, 0))), (18, .slice (some (h5.size, 0)) 2), (19, .int .i64 (2 : Int)), (20, .int .i64 (1 : Int)), (25, .ptr (some (h2.size, 1))), (26, .str p0), (27, .int .i64 x4), (29, .int .u8 x6)] H (fun fr => by kernel_rfl) (fun fr => .of (s_ixS (by kernel_rfl) hx)) ?_
   intro fr t H
   have A1 := A.cut 0
   obtain ⟨⟨x7, x8, x9⟩, hx, hm⟩ := bind_some hm
   obtain ⟨v1, h10, hr, rfl, A1⟩ := ok_rewrite_part (av := [.str p0, .int .i64 x4, .int .u8 x6]) hx (by kernel_rfl) A1
   replace A : HH g h10 [.obj h5.size (.cells (some 63) 2 [.ptr (some (h2.size, 0)), .ptr (some (h2.size, 1))]), .obj h2.size (.cells none 2 [.str x3, .str ([] : List UInt8), .bool false, .bool false, .bool false, .int .i64 (1 : Int), .bool true, .bool true, .bool true]), .obj h.size (.cells none 2 [.str ([] : List UInt8), .str ([] : List UInt8), .bool false, .bool false, .bool false, .int .i64 (0 : Int), .bool false, .bool false, .bool false])] F := A.glue0 (n := 0) A1
   refine at_step (v := .tuple [.str x7, .int .i64 x8, .bool x9]) (h1 := h10) [(0, .str p0), (2, .ptr (some (h.size, 0))), (5, .ptr (some (h2.size, 0))), (18, .slice (some (h5.size, 0)) 2), (19, .int .i64 (2 : Int)), (20, .int .i64 (1 : Int)), (25, .ptr (some (h2.size, 1))), (30, .tuple [.str x7, .int .i64 x8, .bool x9])] H (fun fr => by kernel_rfl) (fun fr => Steps.call (by kernel_rfl) hr) ?_
   intro fr t H
   refine at_seg [(6, []), (7, []), (8, []), (9, []), (10, [])] [(0, .str p0), (2, .ptr (some (h.size, 0))), (5, .ptr (some (h2.size, 0))), (18, .slice (some (h5.size, 0)) 2), (19, .int .i64 (2 : Int)), (20, .int .i64 (1 : Int)), (31, .str x7), (32, .int .i64 x8), (33, .bool x9), (34, .ptr (some (h2.size, 1)))] H (noU_all rfl) (fun fr => by kernel_rfl) ?_
   intro fr H
   obtain ⟨h11, hx, A1⟩ := A.st 1 rfl (o := 1) (new := [.str x7]) (ds := [.str x3, .str x7, .bool false, .bool false, .bool false, .int .i64 (1 : Int), .bool true, .bool true, .bool true]) (Nat.le_of_ble_eq_true rfl) rfl rfl
   replace A : HH g h11 [.obj h5.size (.cells (some 63) 2 [.ptr (some (h2.size, 0)), .ptr (some (h2.size, 1))]), .obj h2.size (.cells none 2 [.str x3, .str x7, .bool false, .bool false, .bool false, .int .i64 (1 : Int), .bool true, .bool true, .bool true]), .obj h.size (.cells none 2 [.str ([] : List UInt8), .str ([] : List UInt8), .bool false, .bool false, .bool false, .int .i64 (0 : Int), .bool false, .bool false, .bool false])] F := A1
   refine at_step (v := .tuple []) (h1 := h11) [(0, .str p0), (2, .ptr (some (h.size, 0))), (5, .ptr (some (h2.size, 0))), (18, .slice (some (h5.size, 0)) 2), (19, .int .i64 (2 : Int)), (20, .int .i64 (1 : Int)), (32, .int .i64 x8), (33, .bool x9)] H (fun fr => by kernel_rfl) (fun fr => .of (s_st (by kernel_rfl) rfl hx)) ?_
   intro fr t H
   refine at_seg [(12, []), (13, [])] [(0, .str p0), (2, .ptr (some (h.size, 0))), (5, .ptr (some (h2.size, 0))), (6, .int .i64 x8), (7, .bool x9), (18, .slice (some (h5.size, 0)) 2), (19, .int .i64 (2 : Int)), (20, .int .i64 (1 : Int))] H (noU_all rfl) (fun fr => by kernel_rfl) ?_
   intro fr H
   refine at_nil ?_
   show AW cfg 9 g (right (right (left (left (right (right (left (left (right (left (right (right (right (right (bodyC cfg.P 9))))))))))))))) fr h11 _
   refine aw_seq (by kernel_rfl) ?_
   refine aw_reg (id := 9) (n := 2) [(0, []), (1, [])] (by kernel_rfl) (by kernel_rfl) ?_
   refine at_seg [(0, []), (1, [])] [(0, .str p0), (2, .ptr (some (h.size, 0))), (5, .ptr (some (h2.size, 0))), (6, .int .i64 x8), (18, .slice (some (h5.size, 0)) 2), (19, .int .i64 (2 : Int)), (20, .int .i64 (1 : Int)), (36, .bool (!x9))] H (noU_all rfl) (fun fr => by kernel_rfl) ?_
   intro fr H
   refine at_nil ?_
   show AW cfg 9 g (right (right (right (left (left (right (right (left (left (right (left (right (right (right (right (bodyC cfg.P 9)))))))))))))))) fr h11 _
   rcases iteB_some hm with ⟨hb, hm⟩ | ⟨hb, hm⟩
   ·replace H := H.know 36 hb (by kernel_rfl)
    refine aw_true (x := .tmp 36) (by kernel_rfl) H (fun fr => by kernel_rfl) ?_
    refine aw_seq (by kernel_rfl) ?_
    refine aw_reg (id := 10) (n := 5) [(0, []), (1, []), (2, []), (3, []), (4, [])] (by kernel_rfl) (by kernel_rfl) ?_
    refine at_seg [(0, []), (1, [])] [(2, .ptr (some (h.size, 0))), (37, .agg [.str ([] : List UInt8), .str ([] : List UInt8), .bool false, .bool false, .bool false, .int .i64 (0 : Int), .bool false, .bool false, .bool false]), (38, .int .i64 x8)] H (noU_all rfl) (fun fr => by kernel_rfl) ?_
    intro fr H
    obtain ⟨h12, hx, A1⟩ := A.st 2 rfl (o := 0) (new := [.str ([] : List UInt8), .str ([] : List UInt8), .bool false, .bool false, .bool false, .int .i64 (0 : Int), .bool false, .bool false, .bool false]) (ds := [.str ([] : List UInt8), .str ([] : List UInt8), .bool false, .bool false, .bool false, .int .i64 (0 : Int), .bool false, .bool false, .bool false]) (Nat.le_of_ble_eq_true rfl) rfl rfl
    replace A : HH g h12 [.obj h5.size (.cells (some 63) 2 [.ptr (some (h2.size, 0)), .ptr (some (h2.size, 1))]), .obj h2.size (.cells none 2 [.str x3, .str x7, .bool false, .bool false, .bool false, .int .i64 (1 : Int), .bool true, .bool true, .bool true]), .obj h.size (.cells none 2 [.str ([] : List UInt8), .str ([] : List UInt8), .bool false, .bool false, .bool false, .int .i64 (0 : Int), .bool false, .bool false, .bool false])] F := A1
    refine at_step (v := .tuple []) (h1 := h12) [(2, .ptr (some (h.size, 0))), (38, .int .i64 x8)] H (fun fr => by kernel_rfl) (fun fr => .of (s_stG (by kernel_rfl) (stG_st hx rfl))) ?_
    intro fr t H
    refine at_seg [(3, []), (4, [])] [(2, .ptr (some (h.size, 0))), (3, .int .i64 x8), (4, .int .i64 (11 : Int))] H (noU_all rfl) (fun fr => by kernel_rfl) ?_
    intro fr H
    refine at_nil ?_
    show AW cfg 9 g (right (left (right (right (right (left (left (right (right (left (left (right (left (right (right (right (right (bodyC cfg.P 9)))))))))))))))))) fr h12 _
    refine aw_ret (by kernel_rfl) ?_
    have e0 := Option.some.inj hm
    obtain ⟨y0, z0⟩ := Prod.mk.inj e0
    obtain ⟨y1, z1⟩ := Prod.mk.inj z0
    subst y0
    subst y1
    subst z1
    refine ⟨.inl rfl, .tuple [.agg [.str ([] : List UInt8), .str ([] : List UInt8), .bool false, .bool false, .bool false, .int .i64 (0 : Int), .bool false, .bool false, .bool false], .int .i64 x8, .int .i64 (11 : Int)], resL_many (.cell (resT H (fun fr => by kernel_rfl)) (load_ldA (by kernel_rfl) (by kernel_rfl) (A.ldA 2 rfl (o := 0) (n := 9) ⟨Nat.le_of_ble_eq_true rfl, rfl⟩)) (.tmp (resT H (fun fr => by kernel_rfl)) (.tmp (resT H (fun fr => by kernel_rfl)) .nil))), ?_⟩
    replace A : HH g h12 [] F := (HH.dropF A 0)
    exact ⟨rfl, A⟩
   ·replace H := H.know 36 hb (by kernel_rfl)
    refine aw_false (x := .tmp 36) (by kernel_rfl) H (fun fr => by kernel_rfl) ?_
    refine aw_skip (by kernel_rfl) ?_
    show AW cfg 9 g (right (right (right (left (left (right (left (right (right (right (right (bodyC cfg.P 9)))))))))))) fr h11 _
    refine aw_reg (id := 11) (n := 2) [(0, []), (1, [])] (by kernel_rfl) (by kernel_rfl) ?_
    refine at_seg [(0, []), (1, [])] [(0, .str p0), (2, .ptr (some (h.size, 0))), (5, .ptr (some (h2.size, 0))), (6, .int .i64 x8), (18, .slice (some (h5.size, 0)) 2), (19, .int .i64 (2 : Int)), (20, .int .i64 (2 : Int))] H (noU_all rfl) (fun fr => by kernel_rfl) ?_
    intro fr H
    refine at_nil ?_
    show AW cfg 9 g (left (right (left (right (right (right (right (bodyC cfg.P 9)))))))) fr h11 _
    refine aw_unroll (by kernel_rfl) ?_
    refine aw_seq (by kernel_rfl) ?_
    refine aw_reg (id := 6) (n := 1) [(0, [])] (by kernel_rfl) (by kernel_rfl) ?_
    refine at_seg [(0, [])] [(0, .str p0), (2, .ptr (some (h.size, 0))), (5, .ptr (some (h2.size, 0))), (6, .int .i64 x8), (18, .slice (some (h5.size, 0)) 2), (19, .int .i64 (2 : Int)), (20, .int .i64 (2 : Int)), (21, .bool false)] H (noU_all rfl) (fun fr => by kernel_rfl) ?_
    intro fr H
    refine at_nil ?_
    show AW cfg 9 g (right (left (left (right (left (right (right (right (right (bodyC cfg.P 9)))))))))) fr h11 _
    refine aw_seq (by kernel_rfl) ?_
    refine aw_false (x := .tmp 21) (by kernel_rfl) H (fun fr => by kernel_rfl) ?_
    refine aw_exit (i := 0) (by kernel_rfl) ?_
    show AW cfg 9 g (right (right (right (right (right (bodyC cfg.P 9)))))) fr h11 _
    refine aw_seq (by kernel_rfl) ?_
    refine aw_seq (by kernel_rfl) ?_
    refine aw_reg (id := 12) (n := 4) [(0, []), (1, []), (2, []), (3, [])] (by kernel_rfl) (by kernel_rfl) ?_
    refine at_seg [(0, []), (1, [])] [(2, .ptr (some (h.size, 0))), (5, .ptr (some (h2.size, 0))), (40, .str p0), (41, .int .i64 x8)] H (noU_all rfl) (fun fr => by kernel_rfl) ?_
    intro fr H
    replace A : HH g h11 [.obj h2.size (.cells none 2 [.str x3, .str x7, .bool false, .bool false, .bool false, .int .i64 (1 : Int), .bool true, .bool true, .bool true]), .obj h5.size (.cells (some 63) 2 [.ptr (some (h2.size, 0)), .ptr (some (h2.size, 1))]), .obj h.size (.cells none 2 [.str ([] : List UInt8), .str ([] : List UInt8), .bool false, .bool false, .bool false, .int .i64 (0 : Int), .bool false, .bool false, .bool false])] F := (A.front 1 rfl)
    have A1 := A.cut 1
    obtain ⟨⟨x10, x11⟩, hx, hm⟩ := bind_some hm
    obtain ⟨v1, h13, hr, rfl, A1⟩ := ok_rewrite_Expr_flags (av := [.ptr (some (h2.size, 0)), .str p0, .int .i64 x8]) hx (by kernel_rfl) A1
    replace A : HH g h13 [.obj h2.size (.cells none 2 (e_S_rewrite_Expr x11)), .obj h5.size (.cells (some 63) 2 [.ptr (some (h2.size, 0)), .ptr (some (h2.size, 1))]), .obj h.size (.cells none 2 [.str ([] : List UInt8), .str ([] : List UInt8), .bool false, .bool false, .bool false, .int .i64 (0 : Int), .bool false, .bool false, .bool false])] F := A.glue0 (n := 1) A1
    refine at_step (v := .int .i64 x10) (h1 := h13) [(2, .ptr (some (h.size, 0))), (5, .ptr (some (h2.size, 0))), (42, .int .i64 x10)] H (fun fr => by kernel_rfl) (fun fr => Steps.call (by kernel_rfl) hr) ?_
    intro fr t H
    refine at_seg [(3, [])] [(2, .ptr (some (h.size, 0))), (5, .ptr (some (h2.size, 0))), (10, .int .i64 x10)] H (noU_all rfl) (fun fr => by kernel_rfl) ?_
    intro fr H
    refine at_nil ?_
    show AW cfg 9 g (right (left (right (right (right (right (right (bodyC cfg.P 9)))))))) fr h13 _
    refine aw_seq (by kernel_rfl) ?_
    refine aw_reg (id := 13) (n := 2) [(0, []), (1, [])] (by kernel_rfl) (by kernel_rfl) ?_
    refine at_seg [(0, []), (1, [])] [(2, .ptr (some (h.size, 0))), (5, .ptr (some (h2.size, 0))), (10, .int .i64 x10), (44, .bool (decide (x10 ≥ (0 : Int))))] H (noU_all rfl) (fun fr => by kernel_rfl) ?_
    intro fr H
    refine at_nil ?_
    show AW cfg 9 g (right (right (left (right (right (right (right (right (bodyC cfg.P 9))))))))) fr h13 _
    rcases iteB_some hm with ⟨hb, hm⟩ | ⟨hb, hm⟩
    ·replace H := H.know 44 hb (by kernel_rfl)
     refine aw_true (x := .tmp 44) (by kernel_rfl) H (fun fr => by kernel_rfl) ?_
     refine aw_seq (by kernel_rfl) ?_
     refine aw_reg (id := 14) (n := 5) [(0, []), (1, []), (2, []), (3, []), (4, [])] (by kernel_rfl) (by kernel_rfl) ?_
     refine at_seg [(0, []), (1, [])] [(2, .ptr (some (h.size, 0))), (45, .agg [.str ([] : List UInt8), .str ([] : List UInt8), .bool false, .bool false, .bool false, .int .i64 (0 : Int), .bool false, .bool false, .bool false]), (46, .int .i64 x10)] H (noU_all rfl) (fun fr => by kernel_rfl) ?_
     intro fr H
     obtain ⟨h14, hx, A1⟩ := A.st 2 rfl (o := 0) (new := [.str ([] : List UInt8), .str ([] : List UInt8), .bool false, .bool false, .bool false, .int .i64 (0 : Int), .bool false, .bool false, .bool false]) (ds := [.str ([] : List UInt8), .str ([] : List UInt8), .bool false, .bool false, .bool false, .int .i64 (0 : Int), .bool false, .bool false, .bool false]) (Nat.le_of_ble_eq_true rfl) rfl rfl
     replace A : HH g h14 [.obj h2.size (.cells none 2 (e_S_rewrite_Expr x11)), .obj h5.size (.cells (some 63) 2 [.ptr (some (h2.size, 0)), .ptr (some (h2.size, 1))]), .obj h.size (.cells none 2 [.str ([] : List UInt8), .str ([] : List UInt8), .bool false, .bool false, .bool false, .int .i64 (0 : Int), .bool false, .bool false, .bool false])] F := A1
     refine at_step (v := .tuple []) (h1 := h14) [(2, .ptr (some (h.size, 0))), (46, .int .i64 x10)] H (fun fr => by kernel_rfl) (fun fr => .of (s_stG (by kernel_rfl) (stG_st hx rfl))) ?_
     intro fr t H
     refine at_seg [(3, []), (4, [])] [(2, .ptr (some (h.size, 0))), (3, .int .i64 x10), (4, .int .i64 (11 : Int))] H (noU_all rfl) (fun fr => by kernel_rfl) ?_
     intro fr H
     refine at_nil ?_
     show AW cfg 9 g (right (left (right (right (left (right (right (right (right (right (bodyC cfg.P 9))))))))))) fr h14 _
     refine aw_ret (by kernel_rfl) ?_
     have e0 := Option.some.inj hm
     obtain ⟨y0, z0⟩ := Prod.mk.inj e0
     obtain ⟨y1, z1⟩ := Prod.mk.inj z0
     subst y0
     subst y1
     subst z1
     refine ⟨.inl rfl, .tuple [.agg [.str ([] : List UInt8), .str ([] : List UInt8), .bool false, .bool false, .bool false, .int .i64 (0 : Int), .bool false, .bool false, .bool false], .int .i64 x10, .int .i64 (11 : Int)], resL_many (.cell (resT H (fun fr => by kernel_rfl)) (load_ldA (by kernel_rfl) (by kernel_rfl) (A.ldA 2 rfl (o := 0) (n := 9) ⟨Nat.le_of_ble_eq_true rfl, rfl⟩)) (.tmp (resT H (fun fr => by kernel_rfl)) (.tmp (resT H (fun fr => by kernel_rfl)) .nil))), ?_⟩
     replace A : HH g h14 [] F := (HH.dropF A 0)
     exact ⟨rfl, A⟩
    ·replace H := H.know 44 hb (by kernel_rfl)
     refine aw_false (x := .tmp 44) (by kernel_rfl) H (fun fr => by kernel_rfl) ?_
     refine aw_skip (by kernel_rfl) ?_
     show AW cfg 9 g (right (right (right (right (right (right (bodyC cfg.P 9))))))) fr h13 _
     refine aw_seq (by kernel_rfl) ?_
     refine aw_reg (id := 15) (n := 4) [(0, []), (1, []), (2, []), (3, [])] (by kernel_rfl) (by kernel_rfl) ?_
     refine at_step (v := .agg (e_S_rewrite_Expr x11)) (h1 := h13) [(2, .ptr (some (h.size, 0))), (47, .agg (e_S_rewrite_Expr x11))] H (fun fr => by kernel_rfl) (fun fr => .of (s_ldA (by kernel_rfl) (A.ldA 0 rfl (o := 0) (n := 9) ⟨Nat.le_of_ble_eq_true rfl, rfl⟩))) ?_
     intro fr t H
     obtain ⟨h15, hx, A1⟩ := A.st 2 rfl (o := 0) (new := [.str x11.Re, .str x11.Template, .bool x11.Global, .bool x11.Fold, .bool x11.Extended, .int .i64 x11.Number, .bool x11.Names, .bool x11.Soft, .bool x11.Hard]) (ds := [.str x11.Re, .str x11.Template, .bool x11.Global, .bool x11.Fold, .bool x11.Extended, .int .i64 x11.Number, .bool x11.Names, .bool x11.Soft, .bool x11.Hard]) (Nat.le_of_ble_eq_true rfl) rfl rfl
     replace A : HH g h15 [.obj h2.size (.cells none 2 (e_S_rewrite_Expr x11)), .obj h5.size (.cells (some 63) 2 [.ptr (some (h2.size, 0)), .ptr (some (h2.size, 1))]), .obj h.size (.cells none 2 (e_S_rewrite_Expr x11))] F := A1
     refine at_step (v := .tuple []) (h1 := h15) [(2, .ptr (some (h.size, 0)))] H (fun fr => by kernel_rfl) (fun fr => .of (s_stG (by kernel_rfl) (stG_st hx rfl))) ?_
     intro fr t H
     refine at_seg [(2, []), (3, [])] [(2, .ptr (some (h.size, 0))), (3, .int .i64 (0 : Int)), (4, .int .i64 (0 : Int))] H (noU_all rfl) (fun fr => by kernel_rfl) ?_
     intro fr H
     refine at_nil ?_
     show AW cfg 9 g (right (right (right (right (right (right (right (bodyC cfg.P 9)))))))) fr h15 _
     refine aw_ret (by kernel_rfl) ?_
     have e0 := Option.some.inj hm
     obtain ⟨y0, z0⟩ := Prod.mk.inj e0
     obtain ⟨y1, z1⟩ := Prod.mk.inj z0
     subst y0
     subst y1
     subst z1
     refine ⟨.inl rfl, .tuple [.agg (e_S_rewrite_Expr x11), .int .i64 (0 : Int), .int .i64 (0 : Int)], resL_many (.cell (resT H (fun fr => by kernel_rfl)) (load_ldA (by kernel_rfl) (by kernel_rfl) (A.ldA 2 rfl (o := 0) (n := 9) ⟨Nat.le_of_ble_eq_true rfl, rfl⟩)) (.tmp (resT H (fun fr => by kernel_rfl)) (.tmp (resT H (fun fr => by kernel_rfl)) .nil))), ?_⟩
     replace A : HH g h15 [] F := (HH.dropF A 0)
     exact ⟨rfl, A⟩
end Go.Av.L
