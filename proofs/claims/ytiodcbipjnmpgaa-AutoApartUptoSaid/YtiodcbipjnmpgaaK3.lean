/-
  Models of functions, and that the abstract run tells them. Written by lift2.py.
-/
import Derived.Test.YtiodcbipjnmpgaaKCfg
import Derived.Test.YtiodcbipjnmpgaaK2
namespace Go.Av.L
open Go.Av Go.Lib
set_option maxRecDepth 10000
set_option linter.unusedVariables false
set_option linter.unusedSimpArgs false
structure SC_auto_maker_repeat_1_sIPPPOP where
  M_auto_maker_repeat_1_sIPPPOP : Int → S_auto_maker → S_tree_Node → Option (Int × S_auto_maker × (List S_auto_state))
  M_auto_maker_node_sPPOII : S_auto_maker → Int → Int → Option (Int × S_auto_maker × (List S_auto_state))
  M_auto_maker_repeat_sPPORI : S_auto_maker → S_tree_Node → Int → Option (Int × S_auto_maker × (List S_auto_state))
structure OkSC_auto_maker_repeat_1_sIPPPOP (S : SC_auto_maker_repeat_1_sIPPPOP) : Prop where
  ok_auto_maker_repeat_1_sIPPPOP : ∀ {g : Gd} {h : AHeap} {F : List Ck} {p0 : Int} {p1_0 : S_auto_maker} {p2 : S_tree_Node} {bp1 : Nat} {bp1_0 : Nat} {bp1_0_2 : Nat} {rp1_0_2_0 : Option Nat} {bp2 : Nat} {q0 : Int} {u1 : S_auto_maker} {u3 : List S_auto_state} {av : List AVal} (hm : S.M_auto_maker_repeat_1_sIPPPOP p0 p1_0 p2 = some (q0, u1, u3)) (hc : canL (cfg.still 82) av = [.int .i64 p0, .ptr (some (bp1, 0)), .ptr (some (bp2, 0))]) (A : HH g h [.obj bp1 (.cells none 2 [.ptr (some (bp1_0, 0))]), .obj bp1_0 (.cells none 2 [vs e_S_tree_Node p1_0.t_.Nodes, .int .i64 p1_0.t_.Root, .ptr (some (bp1_0_2, 0)), .int .i64 p1_0.most_, .bool p1_0.full_]), .obj bp1_0_2 (.cells none 2 [rowV rp1_0_2_0 p1_0.a_.l_.length, .int .i64 p1_0.a_.first_]), .lst rp1_0_2_0 108 (lst e_S_auto_state p1_0.a_.l_), .obj bp2 (.cells none 2 (e_S_tree_Node p2))] F), ∃ v h', Runs cfg g h 82 av v h' ∧ ∃ (r'3 : Option Nat), v = .int .i64 q0 ∧ HH g h' [.obj bp1 (.cells none 2 [.ptr (some (bp1_0, 0))]), .obj bp1_0 (.cells none 2 [vs e_S_tree_Node u1.t_.Nodes, .int .i64 u1.t_.Root, .ptr (some (bp1_0_2, 0)), .int .i64 u1.most_, .bool u1.full_]), .obj bp1_0_2 (.cells none 2 [rowV r'3 u3.length, .int .i64 p1_0.a_.first_]), .lst r'3 108 (lst e_S_auto_state u3), .obj bp2 (.cells none 2 (e_S_tree_Node p2))] F
  ok_auto_maker_node_sPPOII : ∀ {g : Gd} {h : AHeap} {F : List Ck} {p0 : S_auto_maker} {p1 : Int} {p2 : Int} {bp0 : Nat} {bp0_2 : Nat} {rp0_2_0 : Option Nat} {q0 : Int} {u0 : S_auto_maker} {u2 : List S_auto_state} {av : List AVal} (hm : S.M_auto_maker_node_sPPOII p0 p1 p2 = some (q0, u0, u2)) (hc : canL (cfg.still 49) av = [.ptr (some (bp0, 0)), .int .i64 p1, .int .i64 p2]) (A : HH g h [.obj bp0 (.cells none 2 [vs e_S_tree_Node p0.t_.Nodes, .int .i64 p0.t_.Root, .ptr (some (bp0_2, 0)), .int .i64 p0.most_, .bool p0.full_]), .obj bp0_2 (.cells none 2 [rowV rp0_2_0 p0.a_.l_.length, .int .i64 p0.a_.first_]), .lst rp0_2_0 108 (lst e_S_auto_state p0.a_.l_)] F), ∃ v h', Runs cfg g h 49 av v h' ∧ ∃ (r'2 : Option Nat), v = .int .i64 q0 ∧ HH g h' [.obj bp0 (.cells none 2 [vs e_S_tree_Node u0.t_.Nodes, .int .i64 u0.t_.Root, .ptr (some (bp0_2, 0)), .int .i64 u0.most_, .bool u0.full_]), .obj bp0_2 (.cells none 2 [rowV r'2 u2.length, .int .i64 p0.a_.first_]), .lst r'2 108 (lst e_S_auto_state u2)] F
  ok_auto_maker_repeat_sPPORI : ∀ {g : Gd} {h : AHeap} {F : List Ck} {p0 : S_auto_maker} {p1 : S_tree_Node} {p2 : Int} {bp0 : Nat} {bp0_2 : Nat} {rp0_2_0 : Option Nat} {q0 : Int} {u0 : S_auto_maker} {u2 : List S_auto_state} {av : List AVal} (hm : S.M_auto_maker_repeat_sPPORI p0 p1 p2 = some (q0, u0, u2)) (hc : canL (cfg.still 66) av = [.ptr (some (bp0, 0)), .agg (e_S_tree_Node p1), .int .i64 p2]) (A : HH g h [.obj bp0 (.cells none 2 [vs e_S_tree_Node p0.t_.Nodes, .int .i64 p0.t_.Root, .ptr (some (bp0_2, 0)), .int .i64 p0.most_, .bool p0.full_]), .obj bp0_2 (.cells none 2 [rowV rp0_2_0 p0.a_.l_.length, .int .i64 p0.a_.first_]), .lst rp0_2_0 108 (lst e_S_auto_state p0.a_.l_)] F), ∃ v h', Runs cfg g h 66 av v h' ∧ ∃ (r'2 : Option Nat), v = .int .i64 q0 ∧ HH g h' [.obj bp0 (.cells none 2 [vs e_S_tree_Node u0.t_.Nodes, .int .i64 u0.t_.Root, .ptr (some (bp0_2, 0)), .int .i64 u0.most_, .bool u0.full_]), .obj bp0_2 (.cells none 2 [rowV r'2 u2.length, .int .i64 p0.a_.first_]), .lst r'2 108 (lst e_S_auto_state u2)] F
/-! ### (*boulter/auto.maker).repeat$1 -/
noncomputable def B_auto_maker_repeat_1_sIPPPOP (S : SC_auto_maker_repeat_1_sIPPPOP) (p0 : Int) (p1_0 : S_auto_maker) (p2 : S_tree_Node) : Option (Int × S_auto_maker × (List S_auto_state)) :=
 (S.M_auto_maker_node_sPPOII p1_0 p2.A p0).bind fun (x1, x2, x3) => some (x1, (⟨x2.t_, (⟨x3, p1_0.a_.first_⟩ : S_auto_Auto), x2.most_, x2.full_⟩ : S_auto_maker), x3)
theorem okB_auto_maker_repeat_1_sIPPPOP {S : SC_auto_maker_repeat_1_sIPPPOP} (hS : OkSC_auto_maker_repeat_1_sIPPPOP S) {g : Gd} {h : AHeap} {F : List Ck} {p0 : Int} {p1_0 : S_auto_maker} {p2 : S_tree_Node} {bp1 : Nat} {bp1_0 : Nat} {bp1_0_2 : Nat} {rp1_0_2_0 : Option Nat} {bp2 : Nat} {q0 : Int} {u1 : S_auto_maker} {u3 : List S_auto_state} {av : List AVal} (hm : B_auto_maker_repeat_1_sIPPPOP S p0 p1_0 p2 = some (q0, u1, u3)) (hc : canL (cfg.still 82) av = [.int .i64 p0, .ptr (some (bp1, 0)), .ptr (some (bp2, 0))]) (A : HH g h [.obj bp1 (.cells none 2 [.ptr (some (bp1_0, 0))]), .obj bp1_0 (.cells none 2 [vs e_S_tree_Node p1_0.t_.Nodes, .int .i64 p1_0.t_.Root, .ptr (some (bp1_0_2, 0)), .int .i64 p1_0.most_, .bool p1_0.full_]), .obj bp1_0_2 (.cells none 2 [rowV rp1_0_2_0 p1_0.a_.l_.length, .int .i64 p1_0.a_.first_]), .lst rp1_0_2_0 108 (lst e_S_auto_state p1_0.a_.l_), .obj bp2 (.cells none 2 (e_S_tree_Node p2))] F) : ∃ v h', Runs cfg g h 82 av v h' ∧ ∃ (r'3 : Option Nat), v = .int .i64 q0 ∧ HH g h' [.obj bp1 (.cells none 2 [.ptr (some (bp1_0, 0))]), .obj bp1_0 (.cells none 2 [vs e_S_tree_Node u1.t_.Nodes, .int .i64 u1.t_.Root, .ptr (some (bp1_0_2, 0)), .int .i64 u1.most_, .bool u1.full_]), .obj bp1_0_2 (.cells none 2 [rowV r'3 u3.length, .int .i64 p1_0.a_.first_]), .lst r'3 108 (lst e_S_auto_state u3), .obj bp2 (.cells none 2 (e_S_tree_Node p2))] F := by
  refine runsQ1 (n := 10) (rs := [.tmp 4]) (by kernel_rfl) hc (by kernel_rfl) ?_
  clear hc
  unfold B_auto_maker_repeat_1_sIPPPOP at hm
  refine start (n := 10) [(0, .int .i64 p0), (1, .ptr (some (bp1, 0))), (2, .ptr (some (bp2, 0)))] (by kernel_rfl) (by kernel_rfl) ?_
  intro fr H
  refine aw_seq (by kernel_rfl) ?_
  refine aw_reg (id := 0) (n := 1) [(0, [])] (by kernel_rfl) (by kernel_rfl) ?_
  refine at_seg [(0, [])] [(0, .int .i64 p0), (1, .ptr (some (bp1, 0))), (2, .ptr (some (bp2, 0)))] H (noU_all rfl) (fun fr => by kernel_rfl) ?_
  intro fr H
  refine at_nil ?_
  show AW cfg 82 g (right (bodyC cfg.P 82)) fr h _
  refine aw_seq (by kernel_rfl) ?_
  refine aw_reg (id := 1) (n := 6) [(0, []), (1, []), (2, []), (3, []), (4, []), (5, [])] (by kernel_rfl) (by kernel_rfl) ?_
  refine at_step (v := .ptr (some (bp1_0, 0))) (h1 := h) [(0, .int .i64 p0), (2, .ptr (some (bp2, 0))), (5, .ptr (some (bp1_0, 0)))] H (fun fr => by kernel_rfl) (fun fr => .of (s_ld (by kernel_rfl) (A.ld1 0 rfl (o := 0) rfl))) ?_
  intro fr t H
  refine at_seg [(1, [])] [(0, .int .i64 p0), (5, .ptr (some (bp1_0, 0))), (6, .ptr (some (bp2, 1)))] H (noU_all rfl) (fun fr => by kernel_rfl) ?_
  intro fr H
  refine at_step (v := .int .i64 p2.A) (h1 := h) [(0, .int .i64 p0), (5, .ptr (some (bp1_0, 0))), (7, .int .i64 p2.A)] H (fun fr => by kernel_rfl) (fun fr => .of (s_ld (by kernel_rfl) (A.ld1 4 rfl (o := 1) rfl))) ?_
  intro fr t H
  refine at_seg [(3, [])] [(5, .ptr (some (bp1_0, 0))), (7, .int .i64 p2.A), (8, .int .i64 p0)] H (noU_all rfl) (fun fr => by kernel_rfl) ?_
  intro fr H
  replace A : HH g h [.obj bp1_0 (.cells none 2 [vs e_S_tree_Node p1_0.t_.Nodes, .int .i64 p1_0.t_.Root, .ptr (some (bp1_0_2, 0)), .int .i64 p1_0.most_, .bool p1_0.full_]), .obj bp1_0_2 (.cells none 2 [rowV rp1_0_2_0 p1_0.a_.l_.length, .int .i64 p1_0.a_.first_]), .lst rp1_0_2_0 108 (lst e_S_auto_state p1_0.a_.l_), .obj bp1 (.cells none 2 [.ptr (some (bp1_0, 0))]), .obj bp2 (.cells none 2 (e_S_tree_Node p2))] F := (((A.front 3 rfl).front 3 rfl).front 3 rfl)
  have A1 := A.cut 3
  obtain ⟨⟨x1, x2, x3⟩, hx, hm⟩ := bind_some hm
  obtain ⟨v1, h1, hr, r1, rfl, A1⟩ := hS.ok_auto_maker_node_sPPOII (av := [.ptr (some (bp1_0, 0)), .int .i64 p2.A, .int .i64 p0]) hx (by kernel_rfl) A1
  replace A : HH g h1 [.obj bp1_0 (.cells none 2 [vs e_S_tree_Node x2.t_.Nodes, .int .i64 x2.t_.Root, .ptr (some (bp1_0_2, 0)), .int .i64 x2.most_, .bool x2.full_]), .obj bp1_0_2 (.cells none 2 [rowV r1 x3.length, .int .i64 p1_0.a_.first_]), .lst r1 108 (lst e_S_auto_state x3), .obj bp1 (.cells none 2 [.ptr (some (bp1_0, 0))]), .obj bp2 (.cells none 2 (e_S_tree_Node p2))] F := A.glue0 (n := 3) A1
  refine at_step (v := .int .i64 x1) (h1 := h1) [(9, .int .i64 x1)] H (fun fr => by kernel_rfl) (fun fr => Steps.call (by kernel_rfl) hr) ?_
  intro fr t H
  refine at_seg [(5, [])] [(4, .int .i64 x1)] H (noU_all rfl) (fun fr => by kernel_rfl) ?_
  intro fr H
  refine at_nil ?_
  show AW cfg 82 g (right (right (bodyC cfg.P 82))) fr h1 _
  refine aw_ret (by kernel_rfl) ?_
  have e0 := Option.some.inj hm
  obtain ⟨y0, z0⟩ := Prod.mk.inj e0
  obtain ⟨y1, z1⟩ := Prod.mk.inj z0
  subst y0
  subst y1
  subst z1
  refine ⟨.inl rfl, .int .i64 x1, resH H (fun fr => by kernel_rfl), ?_⟩
  replace A : HH g h1 [.obj bp1 (.cells none 2 [.ptr (some (bp1_0, 0))]), .obj bp1_0 (.cells none 2 [vs e_S_tree_Node x2.t_.Nodes, .int .i64 x2.t_.Root, .ptr (some (bp1_0_2, 0)), .int .i64 x2.most_, .bool x2.full_]), .obj bp1_0_2 (.cells none 2 [rowV r1 x3.length, .int .i64 p1_0.a_.first_]), .lst r1 108 (lst e_S_auto_state x3), .obj bp2 (.cells none 2 (e_S_tree_Node p2))] F := (((((A.front 4 rfl).front 3 rfl).front 3 rfl).front 3 rfl).front 4 rfl)
  exact ⟨r1, rfl, A⟩
/-! ### (*boulter/auto.maker).node -/
noncomputable def B_auto_maker_node_sPPOII (S : SC_auto_maker_repeat_1_sIPPPOP) (p0 : S_auto_maker) (p1 : Int) (p2 : Int) : Option (Int × S_auto_maker × (List S_auto_state)) :=
 iteB p0.full_ (some ((0 : Int), p0, p0.a_.l_)) (((ixV p0.t_.Nodes p1).bind fun x7 => iteB (x7.Kind == (1 : Int)) ((M_auto_maker_lay_sPPOR p0 (⟨(1 : Int), p2, (0 : Int), x7.Set⟩ : S_auto_state)).bind fun (x8, x9, x10) => some (.inr (x9.t_.Nodes, x9.t_.Root, x9.most_, x9.full_, x10, x8))) (iteB (x7.Kind == (6 : Int)) ((M_auto_maker_lay_sPPOR p0 (⟨(3 : Int), p2, (0 : Int), (⟨(0 : Int), (0 : Int), (0 : Int), (0 : Int)⟩ : A4_uint64)⟩ : S_auto_state)).bind fun (x11, x12, x13) => some (.inr (x12.t_.Nodes, x12.t_.Root, x12.most_, x12.full_, x13, x11))) (iteB (x7.Kind == (7 : Int)) ((M_auto_maker_lay_sPPOR p0 (⟨(4 : Int), p2, (0 : Int), (⟨(0 : Int), (0 : Int), (0 : Int), (0 : Int)⟩ : A4_uint64)⟩ : S_auto_state)).bind fun (x14, x15, x16) => some (.inr (x15.t_.Nodes, x15.t_.Root, x15.most_, x15.full_, x16, x14))) (iteB (x7.Kind == (2 : Int)) ((S.M_auto_maker_node_sPPOII p0 x7.B p2).bind fun (x17, x18, x19) => (S.M_auto_maker_node_sPPOII (⟨x18.t_, (⟨x19, p0.a_.first_⟩ : S_auto_Auto), x18.most_, x18.full_⟩ : S_auto_maker) x7.A x17).bind fun (x20, x21, x22) => some (.inr (x21.t_.Nodes, x21.t_.Root, x21.most_, x21.full_, x22, x20))) (iteB (x7.Kind == (3 : Int)) ((S.M_auto_maker_node_sPPOII p0 x7.A p2).bind fun (x23, x24, x25) => (S.M_auto_maker_node_sPPOII (⟨x24.t_, (⟨x25, p0.a_.first_⟩ : S_auto_Auto), x24.most_, x24.full_⟩ : S_auto_maker) x7.B p2).bind fun (x26, x27, x28) => (M_auto_maker_lay_sPPOR (⟨x27.t_, (⟨x28, p0.a_.first_⟩ : S_auto_Auto), x27.most_, x27.full_⟩ : S_auto_maker) (⟨(2 : Int), x23, x26, (⟨(0 : Int), (0 : Int), (0 : Int), (0 : Int)⟩ : A4_uint64)⟩ : S_auto_state)).bind fun (x29, x30, x31) => some (.inr (x30.t_.Nodes, x30.t_.Root, x30.most_, x30.full_, x31, x29))) (iteB (x7.Kind == (5 : Int)) ((S.M_auto_maker_node_sPPOII p0 x7.A p2).bind fun (x32, x33, x34) => some (.inr (x33.t_.Nodes, x33.t_.Root, x33.most_, x33.full_, x34, x32))) (iteB (x7.Kind == (4 : Int)) (iteB (x7.Max != (0 : Int)) ((S.M_auto_maker_repeat_sPPORI p0 x7 p2).bind fun (x35, x36, x37) => some (.inr (x36.t_.Nodes, x36.t_.Root, x36.most_, x36.full_, x37, x35))) (some (.inl ()))) (some (.inl ())))))))) : Option ((Unit) ⊕ ((List S_tree_Node) × Int × Int × Bool × (List S_auto_state) × Int))).bind fun o1 => (match o1 with | .inl _ => (M_auto_maker_lay_sPPOR p0 (⟨(2 : Int), p2, p2, (⟨(0 : Int), (0 : Int), (0 : Int), (0 : Int)⟩ : A4_uint64)⟩ : S_auto_state)).bind fun (x38, x39, x40) => some (x38, (⟨x39.t_, (⟨x40, p0.a_.first_⟩ : S_auto_Auto), x39.most_, x39.full_⟩ : S_auto_maker), x40) | .inr (x1, x2, x3, x4, x5, x6) => some (x6, (⟨(⟨x1, x2⟩ : S_tree_Tree), (⟨x5, p0.a_.first_⟩ : S_auto_Auto), x3, x4⟩ : S_auto_maker), x5)))
theorem okB_auto_maker_node_sPPOII {S : SC_auto_maker_repeat_1_sIPPPOP} (hS : OkSC_auto_maker_repeat_1_sIPPPOP S) {g : Gd} {h : AHeap} {F : List Ck} {p0 : S_auto_maker} {p1 : Int} {p2 : Int} {bp0 : Nat} {bp0_2 : Nat} {rp0_2_0 : Option Nat} {q0 : Int} {u0 : S_auto_maker} {u2 : List S_auto_state} {av : List AVal} (hm : B_auto_maker_node_sPPOII S p0 p1 p2 = some (q0, u0, u2)) (hc : canL (cfg.still 49) av = [.ptr (some (bp0, 0)), .int .i64 p1, .int .i64 p2]) (A : HH g h [.obj bp0 (.cells none 2 [vs e_S_tree_Node p0.t_.Nodes, .int .i64 p0.t_.Root, .ptr (some (bp0_2, 0)), .int .i64 p0.most_, .bool p0.full_]), .obj bp0_2 (.cells none 2 [rowV rp0_2_0 p0.a_.l_.length, .int .i64 p0.a_.first_]), .lst rp0_2_0 108 (lst e_S_auto_state p0.a_.l_)] F) : ∃ v h', Runs cfg g h 49 av v h' ∧ ∃ (r'2 : Option Nat), v = .int .i64 q0 ∧ HH g h' [.obj bp0 (.cells none 2 [vs e_S_tree_Node u0.t_.Nodes, .int .i64 u0.t_.Root, .ptr (some (bp0_2, 0)), .int .i64 u0.most_, .bool u0.full_]), .obj bp0_2 (.cells none 2 [rowV r'2 u2.length, .int .i64 p0.a_.first_]), .lst r'2 108 (lst e_S_auto_state u2)] F := by
  refine runsQ1 (n := 93) (rs := [.tmp 6]) (by kernel_rfl) hc (by kernel_rfl) ?_
  clear hc
  unfold B_auto_maker_node_sPPOII at hm
  refine start (n := 93) [(0, .ptr (some (bp0, 0))), (1, .int .i64 p1), (2, .int .i64 p2)] (by kernel_rfl) (by kernel_rfl) ?_
  intro fr H
  refine aw_seq (by kernel_rfl) ?_
  refine aw_reg (id := 0) (n := 1) [(0, [])] (by kernel_rfl) (by kernel_rfl) ?_
  refine at_seg [(0, [])] [(0, .ptr (some (bp0, 0))), (1, .int .i64 p1), (2, .int .i64 p2)] H (noU_all rfl) (fun fr => by kernel_rfl) ?_
  intro fr H
  refine at_nil ?_
  show AW cfg 49 g (right (bodyC cfg.P 49)) fr h _
  refine aw_seq (by kernel_rfl) ?_
  refine aw_seq (by kernel_rfl) ?_
  refine aw_reg (id := 1) (n := 4) [(0, []), (1, []), (2, []), (3, [])] (by kernel_rfl) (by kernel_rfl) ?_
  refine at_seg [(0, []), (1, []), (2, [])] [(0, .ptr (some (bp0, 0))), (1, .int .i64 p1), (2, .int .i64 p2), (12, .ptr (some (bp0, 4)))] H (noU_all rfl) (fun fr => by kernel_rfl) ?_
  intro fr H
  refine at_step (v := .bool p0.full_) (h1 := h) [(0, .ptr (some (bp0, 0))), (1, .int .i64 p1), (2, .int .i64 p2), (13, .bool p0.full_)] H (fun fr => by kernel_rfl) (fun fr => .of (s_ld (by kernel_rfl) (A.ld1 0 rfl (o := 4) rfl))) ?_
  intro fr t H
  refine at_nil ?_
  show AW cfg 49 g (right (left (right (bodyC cfg.P 49)))) fr h _
  rcases iteB_some hm with ⟨hb, hm⟩ | ⟨hb, hm⟩
  · replace H := H.know 13 hb (by kernel_rfl)
    refine aw_true (x := .tmp 13) (by kernel_rfl) H (fun fr => by kernel_rfl) ?_
    refine aw_seq (by kernel_rfl) ?_
    refine aw_reg (id := 2) (n := 1) [(0, [])] (by kernel_rfl) (by kernel_rfl) ?_
    refine at_seg [(0, [])] [(6, .int .i64 (0 : Int))] H (noU_all rfl) (fun fr => by kernel_rfl) ?_
    intro fr H
    refine at_nil ?_
    show AW cfg 49 g (right (left (right (left (right (bodyC cfg.P 49)))))) fr h _
    refine aw_ret (by kernel_rfl) ?_
    have e0 := Option.some.inj hm
    obtain ⟨y0, z0⟩ := Prod.mk.inj e0
    obtain ⟨y1, z1⟩ := Prod.mk.inj z0
    subst y0
    subst y1
    subst z1
    refine ⟨.inl rfl, .int .i64 (0 : Int), resH H (fun fr => by kernel_rfl), ?_⟩
    exact ⟨rp0_2_0, rfl, A⟩
  · replace H := H.know 13 hb (by kernel_rfl)
    refine aw_false (x := .tmp 13) (by kernel_rfl) H (fun fr => by kernel_rfl) ?_
    refine aw_skip (by kernel_rfl) ?_
    show AW cfg 49 g (right (right (bodyC cfg.P 49))) fr h _
    refine aw_seq (by kernel_rfl) ?_
    obtain ⟨o1, ho, hm⟩ := bind_some hm
    refine aw_mono (Q' := fun e fr' h' => (e = .normal ∧ .inl () = o1 ∧ Has fr' 93 [(0, .ptr (some (bp0, 0))), (2, .int .i64 p2)] ∧ HH g h' [.obj bp0 (.cells none 2 [vs e_S_tree_Node p0.t_.Nodes, .int .i64 p0.t_.Root, .ptr (some (bp0_2, 0)), .int .i64 p0.most_, .bool p0.full_]), .obj bp0_2 (.cells none 2 [rowV rp0_2_0 p0.a_.l_.length, .int .i64 p0.a_.first_]), .lst rp0_2_0 108 (lst e_S_auto_state p0.a_.l_)] F) ∨ (∃ (x1 : List S_tree_Node) (x2 : Int) (x3 : Int) (x4 : Bool) (x5 : List S_auto_state) (x6 : Int), e = .ret ∧ .inr (x1, x2, x3, x4, x5, x6) = o1 ∧ ∃ (r1 : Option Nat), Has fr' 93 [(6, .int .i64 x6)] ∧ HH g h' [.obj bp0 (.cells none 2 [vs e_S_tree_Node x1, .int .i64 x2, .ptr (some (bp0_2, 0)), .int .i64 x3, .bool x4]), .obj bp0_2 (.cells none 2 [rowV r1 x5.length, .int .i64 p0.a_.first_]), .lst r1 108 (lst e_S_auto_state x5)] F) ∨ False) ?_ ?_
    · replace hm := ho
      clear ho
      refine aw_seq (by kernel_rfl) ?_
      refine aw_reg (id := 3) (n := 10) [(0, []), (1, []), (2, []), (3, []), (4, []), (5, []), (6, []), (7, []), (8, []), (9, [])] (by kernel_rfl) (by kernel_rfl) ?_
      refine at_seg [(0, []), (1, []), (2, []), (3, [])] [(0, .ptr (some (bp0, 0))), (1, .int .i64 p1), (2, .int .i64 p2), (17, .ptr (some (bp0, 0)))] H (noU_all rfl) (fun fr => by kernel_rfl) ?_
      intro fr H
      refine at_step (v := vs e_S_tree_Node p0.t_.Nodes) (h1 := h) [(0, .ptr (some (bp0, 0))), (1, .int .i64 p1), (2, .int .i64 p2), (18, vs e_S_tree_Node p0.t_.Nodes)] H (fun fr => by kernel_rfl) (fun fr => .of (s_ld (by kernel_rfl) (A.ld1 0 rfl (o := 0) rfl))) ?_
      intro fr t H
      refine at_seg [(5, [])] [(0, .ptr (some (bp0, 0))), (2, .int .i64 p2), (18, vs e_S_tree_Node p0.t_.Nodes), (19, .int .i64 p1)] H (noU_all rfl) (fun fr => by kernel_rfl) ?_
      intro fr H
      obtain ⟨x7, hx, hm⟩ := bind_some hm
      refine at_step (v := .vptr (e_S_tree_Node x7)) (h1 := h) [(0, .ptr (some (bp0, 0))), (2, .int .i64 p2), (20, .vptr (e_S_tree_Node x7))] H (fun fr => by kernel_rfl) (fun fr => .of (s_ixV (e := e_S_tree_Node) (x := x7) enc_S_tree_Node (by decide) (by kernel_rfl) hx)) ?_
      intro fr t H
      refine at_step (v := .agg (e_S_tree_Node x7)) (h1 := h) [(0, .ptr (some (bp0, 0))), (2, .int .i64 p2), (21, .agg (e_S_tree_Node x7))] H (fun fr => by kernel_rfl) (fun fr => .of (s_lv (by kernel_rfl))) ?_
      intro fr t H
      obtain ⟨h1, e1⟩ : ∃ x, x = h.push (.cells none 2 [.int .i64 (0 : Int), .int .i64 (0 : Int), .int .i64 (0 : Int), .int .i64 (0 : Int), .int .i64 (0 : Int), .int .i64 (0 : Int), .int .u64 (0 : Int), .int .u64 (0 : Int), .int .u64 (0 : Int), .int .u64 (0 : Int)]) := ⟨_, rfl⟩
      replace A := (A.push _).to e1
      refine at_step (v := .ptr (some (h.size, 0))) (h1 := h1) [(0, .ptr (some (bp0, 0))), (2, .int .i64 p2), (7, .ptr (some (h.size, 0))), (21, .agg (e_S_tree_Node x7))] H (fun fr => by kernel_rfl) (fun fr => .of (s_n' (by kernel_rfl) (congrArg some e1.symm))) ?_
      intro fr t H
      obtain ⟨h2, hx, A1⟩ := A.st 0 rfl (o := 0) (new := [.int .i64 x7.Kind, .int .i64 x7.A, .int .i64 x7.B, .int .i64 x7.Min, .int .i64 x7.Max, .int .i64 x7.Group, .int .u64 x7.Set.w0, .int .u64 x7.Set.w1, .int .u64 x7.Set.w2, .int .u64 x7.Set.w3]) (ds := [.int .i64 x7.Kind, .int .i64 x7.A, .int .i64 x7.B, .int .i64 x7.Min, .int .i64 x7.Max, .int .i64 x7.Group, .int .u64 x7.Set.w0, .int .u64 x7.Set.w1, .int .u64 x7.Set.w2, .int .u64 x7.Set.w3]) (Nat.le_of_ble_eq_true rfl) rfl rfl
      replace A : HH g h2 [.obj h.size (.cells none 2 (e_S_tree_Node x7)), .obj bp0 (.cells none 2 [vs e_S_tree_Node p0.t_.Nodes, .int .i64 p0.t_.Root, .ptr (some (bp0_2, 0)), .int .i64 p0.most_, .bool p0.full_]), .obj bp0_2 (.cells none 2 [rowV rp0_2_0 p0.a_.l_.length, .int .i64 p0.a_.first_]), .lst rp0_2_0 108 (lst e_S_auto_state p0.a_.l_)] F := A1
      refine at_step (v := .tuple []) (h1 := h2) [(0, .ptr (some (bp0, 0))), (2, .int .i64 p2), (7, .ptr (some (h.size, 0)))] H (fun fr => by kernel_rfl) (fun fr => .of (s_stG (by kernel_rfl) (stG_st hx rfl))) ?_
      intro fr t H
      refine at_nil ?_
      show AW cfg 49 g (right (left (right (right (bodyC cfg.P 49))))) fr h2 _
      refine aw_seq (by kernel_rfl) ?_
      refine aw_reg (id := 4) (n := 2) [(0, []), (1, [])] (by kernel_rfl) (by kernel_rfl) ?_
      refine at_seg [(0, [])] [(0, .ptr (some (bp0, 0))), (2, .int .i64 p2), (7, .ptr (some (h.size, 0))), (22, .ptr (some (h.size, 0)))] H (noU_all rfl) (fun fr => by kernel_rfl) ?_
      intro fr H
      refine at_step (v := .int .i64 x7.Kind) (h1 := h2) [(0, .ptr (some (bp0, 0))), (2, .int .i64 p2), (7, .ptr (some (h.size, 0))), (23, .int .i64 x7.Kind)] H (fun fr => by kernel_rfl) (fun fr => .of (s_ld (by kernel_rfl) (A.ld1 0 rfl (o := 0) rfl))) ?_
      intro fr t H
      refine at_nil ?_
      show AW cfg 49 g (right (right (left (right (right (bodyC cfg.P 49)))))) fr h2 _
      refine aw_block (id := 0) (by kernel_rfl) ?_
      refine aw_seq (by kernel_rfl) ?_
      refine aw_reg (id := 5) (n := 2) [(0, []), (1, [])] (by kernel_rfl) (by kernel_rfl) ?_
      refine at_seg [(0, []), (1, [])] [(0, .ptr (some (bp0, 0))), (2, .int .i64 p2), (7, .ptr (some (h.size, 0))), (23, .int .i64 x7.Kind), (24, .bool (x7.Kind == (1 : Int)))] H (noU_all rfl) (fun fr => by kernel_rfl) ?_
      intro fr H
      refine at_nil ?_
      show AW cfg 49 g (right (left (right (right (left (right (right (bodyC cfg.P 49)))))))) fr h2 _
      rcases iteB_some hm with ⟨hb, hm⟩ | ⟨hb, hm⟩
      · replace H := H.know 24 hb (by kernel_rfl)
        refine aw_true (x := .tmp 24) (by kernel_rfl) H (fun fr => by kernel_rfl) ?_
        refine aw_seq (by kernel_rfl) ?_
        refine aw_reg (id := 6) (n := 7) [(0, []), (1, []), (2, []), (3, []), (4, []), (5, []), (6, [])] (by kernel_rfl) (by kernel_rfl) ?_
        refine at_seg [(0, []), (1, []), (2, [])] [(26, .ptr (some (bp0, 0))), (27, .int .i64 p2), (28, .ptr (some (h.size, 6)))] H (noU_all rfl) (fun fr => by kernel_rfl) ?_
        intro fr H
        refine at_step (v := .agg [.int .u64 x7.Set.w0, .int .u64 x7.Set.w1, .int .u64 x7.Set.w2, .int .u64 x7.Set.w3]) (h1 := h2) [(26, .ptr (some (bp0, 0))), (27, .int .i64 p2), (29, .agg [.int .u64 x7.Set.w0, .int .u64 x7.Set.w1, .int .u64 x7.Set.w2, .int .u64 x7.Set.w3])] H (fun fr => by kernel_rfl) (fun fr => .of (s_ldA (by kernel_rfl) (A.ldA 0 rfl (o := 6) (n := 4) ⟨Nat.le_of_ble_eq_true rfl, rfl⟩))) ?_
        intro fr t H
        refine at_seg [(4, [])] [(26, .ptr (some (bp0, 0))), (30, .agg [.int .i64 (1 : Int), .int .i64 p2, .int .i64 (0 : Int), .int .u64 x7.Set.w0, .int .u64 x7.Set.w1, .int .u64 x7.Set.w2, .int .u64 x7.Set.w3])] H (noU_all rfl) (fun fr => by kernel_rfl) ?_
        intro fr H
        replace A : HH g h2 [.obj bp0 (.cells none 2 [vs e_S_tree_Node p0.t_.Nodes, .int .i64 p0.t_.Root, .ptr (some (bp0_2, 0)), .int .i64 p0.most_, .bool p0.full_]), .obj bp0_2 (.cells none 2 [rowV rp0_2_0 p0.a_.l_.length, .int .i64 p0.a_.first_]), .lst rp0_2_0 108 (lst e_S_auto_state p0.a_.l_), .obj h.size (.cells none 2 (e_S_tree_Node x7))] F := (((A.front 3 rfl).front 3 rfl).front 3 rfl)
        have A1 := A.cut 3
        obtain ⟨⟨x8, x9, x10⟩, hx, hm⟩ := bind_some hm
        obtain ⟨v1, h3, hr, r2, rfl, A1⟩ := ok_auto_maker_lay_sPPOR (av := [.ptr (some (bp0, 0)), .agg [.int .i64 (1 : Int), .int .i64 p2, .int .i64 (0 : Int), .int .u64 x7.Set.w0, .int .u64 x7.Set.w1, .int .u64 x7.Set.w2, .int .u64 x7.Set.w3]]) hx (by kernel_rfl) A1
        replace A : HH g h3 [.obj bp0 (.cells none 2 [vs e_S_tree_Node x9.t_.Nodes, .int .i64 x9.t_.Root, .ptr (some (bp0_2, 0)), .int .i64 x9.most_, .bool x9.full_]), .obj bp0_2 (.cells none 2 [rowV r2 x10.length, .int .i64 p0.a_.first_]), .lst r2 108 (lst e_S_auto_state x10), .obj h.size (.cells none 2 (e_S_tree_Node x7))] F := A.glue0 (n := 3) A1
        refine at_step (v := .int .i64 x8) (h1 := h3) [(31, .int .i64 x8)] H (fun fr => by kernel_rfl) (fun fr => Steps.call (by kernel_rfl) hr) ?_
        intro fr t H
        refine at_seg [(6, [])] [(6, .int .i64 x8)] H (noU_all rfl) (fun fr => by kernel_rfl) ?_
        intro fr H
        refine at_nil ?_
        show AW cfg 49 g (right (left (right (left (right (right (left (right (right (bodyC cfg.P 49)))))))))) fr h3 _
        refine aw_ret (by kernel_rfl) ?_
        replace A : HH g h3 [.obj bp0 (.cells none 2 [vs e_S_tree_Node x9.t_.Nodes, .int .i64 x9.t_.Root, .ptr (some (bp0_2, 0)), .int .i64 x9.most_, .bool x9.full_]), .obj bp0_2 (.cells none 2 [rowV r2 x10.length, .int .i64 p0.a_.first_]), .lst r2 108 (lst e_S_auto_state x10)] F := (HH.dropF (((A.front 2 rfl).front 2 rfl).front 2 rfl) 3)
        exact Or.inr (Or.inl ⟨x9.t_.Nodes, x9.t_.Root, x9.most_, x9.full_, x10, x8, rfl, Option.some.inj hm, r2, H.less _ (fun fr => by kernel_rfl), A⟩)
      · replace H := H.know 24 hb (by kernel_rfl)
        refine aw_false (x := .tmp 24) (by kernel_rfl) H (fun fr => by kernel_rfl) ?_
        refine aw_seq (by kernel_rfl) ?_
        refine aw_reg (id := 7) (n := 2) [(0, []), (1, [])] (by kernel_rfl) (by kernel_rfl) ?_
        refine at_seg [(0, []), (1, [])] [(0, .ptr (some (bp0, 0))), (2, .int .i64 p2), (7, .ptr (some (h.size, 0))), (23, .int .i64 x7.Kind), (32, .bool (x7.Kind == (6 : Int)))] H (noU_all rfl) (fun fr => by kernel_rfl) ?_
        intro fr H
        refine at_nil ?_
        show AW cfg 49 g (right (right (right (left (right (right (left (right (right (bodyC cfg.P 49)))))))))) fr h2 _
        rcases iteB_some hm with ⟨hb, hm⟩ | ⟨hb, hm⟩
        · replace H := H.know 32 hb (by kernel_rfl)
          refine aw_true (x := .tmp 32) (by kernel_rfl) H (fun fr => by kernel_rfl) ?_
          refine aw_seq (by kernel_rfl) ?_
          refine aw_reg (id := 8) (n := 5) [(0, []), (1, []), (2, []), (3, []), (4, [])] (by kernel_rfl) (by kernel_rfl) ?_
          refine at_seg [(0, []), (1, []), (2, [])] [(34, .ptr (some (bp0, 0))), (36, .agg [.int .i64 (3 : Int), .int .i64 p2, .int .i64 (0 : Int), .int .u64 (0 : Int), .int .u64 (0 : Int), .int .u64 (0 : Int), .int .u64 (0 : Int)])] H (noU_all rfl) (fun fr => by kernel_rfl) ?_
          intro fr H
          replace A : HH g h2 [.obj bp0 (.cells none 2 [vs e_S_tree_Node p0.t_.Nodes, .int .i64 p0.t_.Root, .ptr (some (bp0_2, 0)), .int .i64 p0.most_, .bool p0.full_]), .obj bp0_2 (.cells none 2 [rowV rp0_2_0 p0.a_.l_.length, .int .i64 p0.a_.first_]), .lst rp0_2_0 108 (lst e_S_auto_state p0.a_.l_), .obj h.size (.cells none 2 (e_S_tree_Node x7))] F := (((A.front 3 rfl).front 3 rfl).front 3 rfl)
          have A1 := A.cut 3
          obtain ⟨⟨x11, x12, x13⟩, hx, hm⟩ := bind_some hm
          obtain ⟨v1, h4, hr, r3, rfl, A1⟩ := ok_auto_maker_lay_sPPOR (av := [.ptr (some (bp0, 0)), .agg [.int .i64 (3 : Int), .int .i64 p2, .int .i64 (0 : Int), .int .u64 (0 : Int), .int .u64 (0 : Int), .int .u64 (0 : Int), .int .u64 (0 : Int)]]) hx (by kernel_rfl) A1
          replace A : HH g h4 [.obj bp0 (.cells none 2 [vs e_S_tree_Node x12.t_.Nodes, .int .i64 x12.t_.Root, .ptr (some (bp0_2, 0)), .int .i64 x12.most_, .bool x12.full_]), .obj bp0_2 (.cells none 2 [rowV r3 x13.length, .int .i64 p0.a_.first_]), .lst r3 108 (lst e_S_auto_state x13), .obj h.size (.cells none 2 (e_S_tree_Node x7))] F := A.glue0 (n := 3) A1
          refine at_step (v := .int .i64 x11) (h1 := h4) [(37, .int .i64 x11)] H (fun fr => by kernel_rfl) (fun fr => Steps.call (by kernel_rfl) hr) ?_
          intro fr t H
          refine at_seg [(4, [])] [(6, .int .i64 x11)] H (noU_all rfl) (fun fr => by kernel_rfl) ?_
          intro fr H
          refine at_nil ?_
          show AW cfg 49 g (right (left (right (right (right (left (right (right (left (right (right (bodyC cfg.P 49)))))))))))) fr h4 _
          refine aw_ret (by kernel_rfl) ?_
          replace A : HH g h4 [.obj bp0 (.cells none 2 [vs e_S_tree_Node x12.t_.Nodes, .int .i64 x12.t_.Root, .ptr (some (bp0_2, 0)), .int .i64 x12.most_, .bool x12.full_]), .obj bp0_2 (.cells none 2 [rowV r3 x13.length, .int .i64 p0.a_.first_]), .lst r3 108 (lst e_S_auto_state x13)] F := (HH.dropF (((A.front 2 rfl).front 2 rfl).front 2 rfl) 3)
          exact Or.inr (Or.inl ⟨x12.t_.Nodes, x12.t_.Root, x12.most_, x12.full_, x13, x11, rfl, Option.some.inj hm, r3, H.less _ (fun fr => by kernel_rfl), A⟩)
        · replace H := H.know 32 hb (by kernel_rfl)
          refine aw_false (x := .tmp 32) (by kernel_rfl) H (fun fr => by kernel_rfl) ?_
          refine aw_seq (by kernel_rfl) ?_
          refine aw_reg (id := 9) (n := 2) [(0, []), (1, [])] (by kernel_rfl) (by kernel_rfl) ?_
          refine at_seg [(0, []), (1, [])] [(0, .ptr (some (bp0, 0))), (2, .int .i64 p2), (7, .ptr (some (h.size, 0))), (23, .int .i64 x7.Kind), (38, .bool (x7.Kind == (7 : Int)))] H (noU_all rfl) (fun fr => by kernel_rfl) ?_
          intro fr H
          refine at_nil ?_
          show AW cfg 49 g (right (right (right (right (right (left (right (right (left (right (right (bodyC cfg.P 49)))))))))))) fr h2 _
          rcases iteB_some hm with ⟨hb, hm⟩ | ⟨hb, hm⟩
          · replace H := H.know 38 hb (by kernel_rfl)
            refine aw_true (x := .tmp 38) (by kernel_rfl) H (fun fr => by kernel_rfl) ?_
            refine aw_seq (by kernel_rfl) ?_
            refine aw_reg (id := 10) (n := 5) [(0, []), (1, []), (2, []), (3, []), (4, [])] (by kernel_rfl) (by kernel_rfl) ?_
            refine at_seg [(0, []), (1, []), (2, [])] [(40, .ptr (some (bp0, 0))), (42, .agg [.int .i64 (4 : Int), .int .i64 p2, .int .i64 (0 : Int), .int .u64 (0 : Int), .int .u64 (0 : Int), .int .u64 (0 : Int), .int .u64 (0 : Int)])] H (noU_all rfl) (fun fr => by kernel_rfl) ?_
            intro fr H
            replace A : HH g h2 [.obj bp0 (.cells none 2 [vs e_S_tree_Node p0.t_.Nodes, .int .i64 p0.t_.Root, .ptr (some (bp0_2, 0)), .int .i64 p0.most_, .bool p0.full_]), .obj bp0_2 (.cells none 2 [rowV rp0_2_0 p0.a_.l_.length, .int .i64 p0.a_.first_]), .lst rp0_2_0 108 (lst e_S_auto_state p0.a_.l_), .obj h.size (.cells none 2 (e_S_tree_Node x7))] F := (((A.front 3 rfl).front 3 rfl).front 3 rfl)
            have A1 := A.cut 3
            obtain ⟨⟨x14, x15, x16⟩, hx, hm⟩ := bind_some hm
            obtain ⟨v1, h5, hr, r4, rfl, A1⟩ := ok_auto_maker_lay_sPPOR (av := [.ptr (some (bp0, 0)), .agg [.int .i64 (4 : Int), .int .i64 p2, .int .i64 (0 : Int), .int .u64 (0 : Int), .int .u64 (0 : Int), .int .u64 (0 : Int), .int .u64 (0 : Int)]]) hx (by kernel_rfl) A1
            replace A : HH g h5 [.obj bp0 (.cells none 2 [vs e_S_tree_Node x15.t_.Nodes, .int .i64 x15.t_.Root, .ptr (some (bp0_2, 0)), .int .i64 x15.most_, .bool x15.full_]), .obj bp0_2 (.cells none 2 [rowV r4 x16.length, .int .i64 p0.a_.first_]), .lst r4 108 (lst e_S_auto_state x16), .obj h.size (.cells none 2 (e_S_tree_Node x7))] F := A.glue0 (n := 3) A1
            refine at_step (v := .int .i64 x14) (h1 := h5) [(43, .int .i64 x14)] H (fun fr => by kernel_rfl) (fun fr => Steps.call (by kernel_rfl) hr) ?_
            intro fr t H
            refine at_seg [(4, [])] [(6, .int .i64 x14)] H (noU_all rfl) (fun fr => by kernel_rfl) ?_
            intro fr H
            refine at_nil ?_
            show AW cfg 49 g (right (left (right (right (right (right (right (left (right (right (left (right (right (bodyC cfg.P 49)))))))))))))) fr h5 _
            refine aw_ret (by kernel_rfl) ?_
            replace A : HH g h5 [.obj bp0 (.cells none 2 [vs e_S_tree_Node x15.t_.Nodes, .int .i64 x15.t_.Root, .ptr (some (bp0_2, 0)), .int .i64 x15.most_, .bool x15.full_]), .obj bp0_2 (.cells none 2 [rowV r4 x16.length, .int .i64 p0.a_.first_]), .lst r4 108 (lst e_S_auto_state x16)] F := (HH.dropF (((A.front 2 rfl).front 2 rfl).front 2 rfl) 3)
            exact Or.inr (Or.inl ⟨x15.t_.Nodes, x15.t_.Root, x15.most_, x15.full_, x16, x14, rfl, Option.some.inj hm, r4, H.less _ (fun fr => by kernel_rfl), A⟩)
          · replace H := H.know 38 hb (by kernel_rfl)
            refine aw_false (x := .tmp 38) (by kernel_rfl) H (fun fr => by kernel_rfl) ?_
            refine aw_seq (by kernel_rfl) ?_
            refine aw_reg (id := 11) (n := 2) [(0, []), (1, [])] (by kernel_rfl) (by kernel_rfl) ?_
            refine at_seg [(0, []), (1, [])] [(0, .ptr (some (bp0, 0))), (2, .int .i64 p2), (7, .ptr (some (h.size, 0))), (23, .int .i64 x7.Kind), (44, .bool (x7.Kind == (2 : Int)))] H (noU_all rfl) (fun fr => by kernel_rfl) ?_
            intro fr H
            refine at_nil ?_
            show AW cfg 49 g (right (right (right (right (right (right (right (left (right (right (left (right (right (bodyC cfg.P 49)))))))))))))) fr h2 _
            rcases iteB_some hm with ⟨hb, hm⟩ | ⟨hb, hm⟩
            · replace H := H.know 44 hb (by kernel_rfl)
              refine aw_true (x := .tmp 44) (by kernel_rfl) H (fun fr => by kernel_rfl) ?_
              refine aw_seq (by kernel_rfl) ?_
              refine aw_draw (id := 12) (n := 10) (by kernel_rfl) [(0, []), (1, []), (2, []), (3, []), (4, []), (5, []), (6, []), (7, [2]), (8, []), (9, [])] (by kernel_rfl) ?_
              refine at_seg [(0, []), (1, [])] [(0, .ptr (some (bp0, 0))), (2, .int .i64 p2), (7, .ptr (some (h.size, 0))), (46, .ptr (some (bp0, 0))), (47, .ptr (some (h.size, 1)))] H (noU_all rfl) (fun fr => by kernel_rfl) ?_
              intro fr H
              refine at_stepT (v := .int .i64 x7.A) (h1 := h2) (tch' := [(2, h.size)]) (g.prot) [(0, .ptr (some (bp0, 0))), (2, .int .i64 p2), (7, .ptr (some (h.size, 0))), (46, .ptr (some (bp0, 0))), (48, .int .i64 x7.A)] H (fun fr => by kernel_rfl) (by kernel_rfl) (fun fr => by kernel_rfl) (fun fr => .of (s_ld (by kernel_rfl) (A.ld1 0 rfl (o := 1) rfl))) (fun fr => by kernel_rfl) ?_
              intro fr H
              refine at_seg [(3, []), (4, [])] [(2, .int .i64 p2), (46, .ptr (some (bp0, 0))), (48, .int .i64 x7.A), (49, .ptr (some (bp0, 0))), (50, .ptr (some (h.size, 2)))] H (noU_all rfl) (fun fr => by kernel_rfl) ?_
              intro fr H
              refine at_stepT (v := .int .i64 x7.B) (h1 := h2) (tch' := [(5, h.size), (2, h.size)]) (g.prot) [(2, .int .i64 p2), (46, .ptr (some (bp0, 0))), (48, .int .i64 x7.A), (49, .ptr (some (bp0, 0))), (51, .int .i64 x7.B)] H (fun fr => by kernel_rfl) (by kernel_rfl) (fun fr => by kernel_rfl) (fun fr => .of (s_ld (by kernel_rfl) (A.ld1 0 rfl (o := 2) rfl))) (fun fr => by kernel_rfl) ?_
              intro fr H
              refine at_seg [(6, [])] [(46, .ptr (some (bp0, 0))), (48, .int .i64 x7.A), (49, .ptr (some (bp0, 0))), (51, .int .i64 x7.B), (52, .int .i64 p2)] H (noU_all rfl) (fun fr => by kernel_rfl) ?_
              intro fr H
              replace A : HH g h2 [.obj bp0 (.cells none 2 [vs e_S_tree_Node p0.t_.Nodes, .int .i64 p0.t_.Root, .ptr (some (bp0_2, 0)), .int .i64 p0.most_, .bool p0.full_]), .obj bp0_2 (.cells none 2 [rowV rp0_2_0 p0.a_.l_.length, .int .i64 p0.a_.first_]), .lst rp0_2_0 108 (lst e_S_auto_state p0.a_.l_), .obj h.size (.cells none 2 (e_S_tree_Node x7))] F := (((A.front 3 rfl).front 3 rfl).front 3 rfl)
              have A1 := A.prot2 3 (pr := [h.size]) (.cons 0 rfl (by simp [Ck.ids]) .nil)
              obtain ⟨⟨x17, x18, x19⟩, hx, hm⟩ := bind_some hm
              obtain ⟨v1, h6, hr, r5, rfl, A1⟩ := hS.ok_auto_maker_node_sPPOII (av := [.ptr (some (bp0, 0)), .int .i64 x7.B, .int .i64 p2]) hx (by kernel_rfl) A1
              replace A : HH g h6 [.obj bp0 (.cells none 2 [vs e_S_tree_Node x18.t_.Nodes, .int .i64 x18.t_.Root, .ptr (some (bp0_2, 0)), .int .i64 x18.most_, .bool x18.full_]), .obj bp0_2 (.cells none 2 [rowV r5 x19.length, .int .i64 p0.a_.first_]), .lst r5 108 (lst e_S_auto_state x19), .obj h.size (.cells none 2 (e_S_tree_Node x7))] F := A.glueP (n := 3) A1
              refine at_stepT (v := .int .i64 x17) (h1 := h6) (tch' := [(5, h.size), (2, h.size)]) (h.size :: g.prot) [(46, .ptr (some (bp0, 0))), (48, .int .i64 x7.A), (53, .int .i64 x17)] H (fun fr => by kernel_rfl) (by kernel_rfl) (fun fr => by kernel_rfl) (fun fr => Steps.call (by kernel_rfl) hr) (fun fr => by kernel_rfl) ?_
              intro fr H
              have A1 := A.cut 3
              obtain ⟨⟨x20, x21, x22⟩, hx, hm⟩ := bind_some hm
              obtain ⟨v1, h7, hr, r6, rfl, A1⟩ := hS.ok_auto_maker_node_sPPOII (av := [.ptr (some (bp0, 0)), .int .i64 x7.A, .int .i64 x17]) hx (by kernel_rfl) A1
              replace A : HH g h7 [.obj bp0 (.cells none 2 [vs e_S_tree_Node x21.t_.Nodes, .int .i64 x21.t_.Root, .ptr (some (bp0_2, 0)), .int .i64 x21.most_, .bool x21.full_]), .obj bp0_2 (.cells none 2 [rowV r6 x22.length, .int .i64 p0.a_.first_]), .lst r6 108 (lst e_S_auto_state x22), .obj h.size (.cells none 2 (e_S_tree_Node x7))] F := A.glue0 (n := 3) A1
              refine at_stepT (v := .int .i64 x20) (h1 := h7) (tch' := [(5, h.size), (2, h.size)]) (g.prot) [(54, .int .i64 x20)] H (fun fr => by kernel_rfl) (by kernel_rfl) (fun fr => by kernel_rfl) (fun fr => Steps.call (by kernel_rfl) hr) (fun fr => by kernel_rfl) ?_
              intro fr H
              refine at_seg [(9, [])] [(6, .int .i64 x20)] H (noU_all rfl) (fun fr => by kernel_rfl) ?_
              intro fr H
              refine at_nil ?_
              show AW cfg 49 g (right (left (right (right (right (right (right (right (right (left (right (right (left (right (right (bodyC cfg.P 49)))))))))))))))) fr h7 _
              refine aw_ret (by kernel_rfl) ?_
              replace A : HH g h7 [.obj bp0 (.cells none 2 [vs e_S_tree_Node x21.t_.Nodes, .int .i64 x21.t_.Root, .ptr (some (bp0_2, 0)), .int .i64 x21.most_, .bool x21.full_]), .obj bp0_2 (.cells none 2 [rowV r6 x22.length, .int .i64 p0.a_.first_]), .lst r6 108 (lst e_S_auto_state x22)] F := (HH.dropF (((A.front 2 rfl).front 2 rfl).front 2 rfl) 3)
              exact Or.inr (Or.inl ⟨x21.t_.Nodes, x21.t_.Root, x21.most_, x21.full_, x22, x20, rfl, Option.some.inj hm, r6, H.less _ (fun fr => by kernel_rfl), A⟩)
            · replace H := H.know 44 hb (by kernel_rfl)
              refine aw_false (x := .tmp 44) (by kernel_rfl) H (fun fr => by kernel_rfl) ?_
              refine aw_seq (by kernel_rfl) ?_
              refine aw_reg (id := 13) (n := 2) [(0, []), (1, [])] (by kernel_rfl) (by kernel_rfl) ?_
              refine at_seg [(0, []), (1, [])] [(0, .ptr (some (bp0, 0))), (2, .int .i64 p2), (7, .ptr (some (h.size, 0))), (23, .int .i64 x7.Kind), (55, .bool (x7.Kind == (3 : Int)))] H (noU_all rfl) (fun fr => by kernel_rfl) ?_
              intro fr H
              refine at_nil ?_
              show AW cfg 49 g (right (right (right (right (right (right (right (right (right (left (right (right (left (right (right (bodyC cfg.P 49)))))))))))))))) fr h2 _
              rcases iteB_some hm with ⟨hb, hm⟩ | ⟨hb, hm⟩
              · replace H := H.know 55 hb (by kernel_rfl)
                refine aw_true (x := .tmp 55) (by kernel_rfl) H (fun fr => by kernel_rfl) ?_
                refine aw_seq (by kernel_rfl) ?_
                refine aw_draw (id := 14) (n := 12) (by kernel_rfl) [(0, []), (1, []), (2, []), (3, []), (5, []), (6, []), (7, []), (4, [7]), (8, []), (9, []), (10, []), (11, [])] (by kernel_rfl) ?_
                refine at_seg [(0, []), (1, [])] [(0, .ptr (some (bp0, 0))), (2, .int .i64 p2), (7, .ptr (some (h.size, 0))), (57, .ptr (some (bp0, 0))), (58, .ptr (some (h.size, 1)))] H (noU_all rfl) (fun fr => by kernel_rfl) ?_
                intro fr H
                refine at_stepT (v := .int .i64 x7.A) (h1 := h2) (tch' := [(2, h.size)]) (g.prot) [(0, .ptr (some (bp0, 0))), (2, .int .i64 p2), (7, .ptr (some (h.size, 0))), (57, .ptr (some (bp0, 0))), (59, .int .i64 x7.A)] H (fun fr => by kernel_rfl) (by kernel_rfl) (fun fr => by kernel_rfl) (fun fr => .of (s_ld (by kernel_rfl) (A.ld1 0 rfl (o := 1) rfl))) (fun fr => by kernel_rfl) ?_
                intro fr H
                refine at_seg [(3, []), (5, []), (6, [])] [(0, .ptr (some (bp0, 0))), (2, .int .i64 p2), (57, .ptr (some (bp0, 0))), (59, .int .i64 x7.A), (60, .int .i64 p2), (62, .ptr (some (bp0, 0))), (63, .ptr (some (h.size, 2)))] H (noU_all rfl) (fun fr => by kernel_rfl) ?_
                intro fr H
                refine at_stepT (v := .int .i64 x7.B) (h1 := h2) (tch' := [(7, h.size), (2, h.size)]) (g.prot) [(0, .ptr (some (bp0, 0))), (2, .int .i64 p2), (57, .ptr (some (bp0, 0))), (59, .int .i64 x7.A), (60, .int .i64 p2), (62, .ptr (some (bp0, 0))), (64, .int .i64 x7.B)] H (fun fr => by kernel_rfl) (by kernel_rfl) (fun fr => by kernel_rfl) (fun fr => .of (s_ld (by kernel_rfl) (A.ld1 0 rfl (o := 2) rfl))) (fun fr => by kernel_rfl) ?_
                intro fr H
                replace A : HH g h2 [.obj bp0 (.cells none 2 [vs e_S_tree_Node p0.t_.Nodes, .int .i64 p0.t_.Root, .ptr (some (bp0_2, 0)), .int .i64 p0.most_, .bool p0.full_]), .obj bp0_2 (.cells none 2 [rowV rp0_2_0 p0.a_.l_.length, .int .i64 p0.a_.first_]), .lst rp0_2_0 108 (lst e_S_auto_state p0.a_.l_), .obj h.size (.cells none 2 (e_S_tree_Node x7))] F := (((A.front 3 rfl).front 3 rfl).front 3 rfl)
                have A1 := A.prot2 3 (pr := [h.size]) (.cons 0 rfl (by simp [Ck.ids]) .nil)
                obtain ⟨⟨x23, x24, x25⟩, hx, hm⟩ := bind_some hm
                obtain ⟨v1, h8, hr, r7, rfl, A1⟩ := hS.ok_auto_maker_node_sPPOII (av := [.ptr (some (bp0, 0)), .int .i64 x7.A, .int .i64 p2]) hx (by kernel_rfl) A1
                replace A : HH g h8 [.obj bp0 (.cells none 2 [vs e_S_tree_Node x24.t_.Nodes, .int .i64 x24.t_.Root, .ptr (some (bp0_2, 0)), .int .i64 x24.most_, .bool x24.full_]), .obj bp0_2 (.cells none 2 [rowV r7 x25.length, .int .i64 p0.a_.first_]), .lst r7 108 (lst e_S_auto_state x25), .obj h.size (.cells none 2 (e_S_tree_Node x7))] F := A.glueP (n := 3) A1
                refine at_stepT (v := .int .i64 x23) (h1 := h8) (tch' := [(7, h.size), (2, h.size)]) (h.size :: g.prot) [(0, .ptr (some (bp0, 0))), (2, .int .i64 p2), (61, .int .i64 x23), (62, .ptr (some (bp0, 0))), (64, .int .i64 x7.B)] H (fun fr => by kernel_rfl) (by kernel_rfl) (fun fr => by kernel_rfl) (fun fr => Steps.call (by kernel_rfl) hr) (fun fr => by kernel_rfl) ?_
                intro fr H
                refine at_seg [(8, [])] [(0, .ptr (some (bp0, 0))), (61, .int .i64 x23), (62, .ptr (some (bp0, 0))), (64, .int .i64 x7.B), (65, .int .i64 p2)] H (noU_all rfl) (fun fr => by kernel_rfl) ?_
                intro fr H
                have A1 := A.cut 3
                obtain ⟨⟨x26, x27, x28⟩, hx, hm⟩ := bind_some hm
                obtain ⟨v1, h9, hr, r8, rfl, A1⟩ := hS.ok_auto_maker_node_sPPOII (av := [.ptr (some (bp0, 0)), .int .i64 x7.B, .int .i64 p2]) hx (by kernel_rfl) A1
                replace A : HH g h9 [.obj bp0 (.cells none 2 [vs e_S_tree_Node x27.t_.Nodes, .int .i64 x27.t_.Root, .ptr (some (bp0_2, 0)), .int .i64 x27.most_, .bool x27.full_]), .obj bp0_2 (.cells none 2 [rowV r8 x28.length, .int .i64 p0.a_.first_]), .lst r8 108 (lst e_S_auto_state x28), .obj h.size (.cells none 2 (e_S_tree_Node x7))] F := A.glue0 (n := 3) A1
                refine at_stepT (v := .int .i64 x26) (h1 := h9) (tch' := [(7, h.size), (2, h.size)]) (g.prot) [(0, .ptr (some (bp0, 0))), (61, .int .i64 x23), (66, .int .i64 x26)] H (fun fr => by kernel_rfl) (by kernel_rfl) (fun fr => by kernel_rfl) (fun fr => Steps.call (by kernel_rfl) hr) (fun fr => by kernel_rfl) ?_
                intro fr H
                refine at_seg [(10, []), (11, [])] [(0, .ptr (some (bp0, 0))), (8, .int .i64 x23), (9, .int .i64 x26)] H (noU_all rfl) (fun fr => by kernel_rfl) ?_
                intro fr H
                refine at_nil ?_
                show AW cfg 49 g (right (left (right (right (right (right (right (right (right (right (right (left (right (right (left (right (right (bodyC cfg.P 49)))))))))))))))))) fr h9 _
                refine aw_seq (by kernel_rfl) ?_
                refine aw_reg (id := 15) (n := 6) [(0, []), (1, []), (2, []), (3, []), (4, []), (5, [])] (by kernel_rfl) (by kernel_rfl) ?_
                refine at_seg [(0, []), (1, []), (2, []), (3, [])] [(67, .ptr (some (bp0, 0))), (70, .agg [.int .i64 (2 : Int), .int .i64 x23, .int .i64 x26, .int .u64 (0 : Int), .int .u64 (0 : Int), .int .u64 (0 : Int), .int .u64 (0 : Int)])] H (noU_all rfl) (fun fr => by kernel_rfl) ?_
                intro fr H
                have A1 := A.cut 3
                obtain ⟨⟨x29, x30, x31⟩, hx, hm⟩ := bind_some hm
                obtain ⟨v1, h10, hr, r9, rfl, A1⟩ := ok_auto_maker_lay_sPPOR (av := [.ptr (some (bp0, 0)), .agg [.int .i64 (2 : Int), .int .i64 x23, .int .i64 x26, .int .u64 (0 : Int), .int .u64 (0 : Int), .int .u64 (0 : Int), .int .u64 (0 : Int)]]) hx (by kernel_rfl) A1
                replace A : HH g h10 [.obj bp0 (.cells none 2 [vs e_S_tree_Node x30.t_.Nodes, .int .i64 x30.t_.Root, .ptr (some (bp0_2, 0)), .int .i64 x30.most_, .bool x30.full_]), .obj bp0_2 (.cells none 2 [rowV r9 x31.length, .int .i64 p0.a_.first_]), .lst r9 108 (lst e_S_auto_state x31), .obj h.size (.cells none 2 (e_S_tree_Node x7))] F := A.glue0 (n := 3) A1
                refine at_step (v := .int .i64 x29) (h1 := h10) [(71, .int .i64 x29)] H (fun fr => by kernel_rfl) (fun fr => Steps.call (by kernel_rfl) hr) ?_
                intro fr t H
                refine at_seg [(5, [])] [(6, .int .i64 x29)] H (noU_all rfl) (fun fr => by kernel_rfl) ?_
                intro fr H
                refine at_nil ?_
                show AW cfg 49 g (right (right (left (right (right (right (right (right (right (right (right (right (left (right (right (left (right (right (bodyC cfg.P 49))))))))))))))))))) fr h10 _
                refine aw_ret (by kernel_rfl) ?_
                replace A : HH g h10 [.obj bp0 (.cells none 2 [vs e_S_tree_Node x30.t_.Nodes, .int .i64 x30.t_.Root, .ptr (some (bp0_2, 0)), .int .i64 x30.most_, .bool x30.full_]), .obj bp0_2 (.cells none 2 [rowV r9 x31.length, .int .i64 p0.a_.first_]), .lst r9 108 (lst e_S_auto_state x31)] F := (HH.dropF (((A.front 2 rfl).front 2 rfl).front 2 rfl) 3)
                exact Or.inr (Or.inl ⟨x30.t_.Nodes, x30.t_.Root, x30.most_, x30.full_, x31, x29, rfl, Option.some.inj hm, r9, H.less _ (fun fr => by kernel_rfl), A⟩)
              · replace H := H.know 55 hb (by kernel_rfl)
                refine aw_false (x := .tmp 55) (by kernel_rfl) H (fun fr => by kernel_rfl) ?_
                refine aw_seq (by kernel_rfl) ?_
                refine aw_reg (id := 16) (n := 2) [(0, []), (1, [])] (by kernel_rfl) (by kernel_rfl) ?_
                refine at_seg [(0, []), (1, [])] [(0, .ptr (some (bp0, 0))), (2, .int .i64 p2), (7, .ptr (some (h.size, 0))), (23, .int .i64 x7.Kind), (72, .bool (x7.Kind == (5 : Int)))] H (noU_all rfl) (fun fr => by kernel_rfl) ?_
                intro fr H
                refine at_nil ?_
                show AW cfg 49 g (right (right (right (right (right (right (right (right (right (right (right (left (right (right (left (right (right (bodyC cfg.P 49)))))))))))))))))) fr h2 _
                rcases iteB_some hm with ⟨hb, hm⟩ | ⟨hb, hm⟩
                · replace H := H.know 72 hb (by kernel_rfl)
                  refine aw_true (x := .tmp 72) (by kernel_rfl) H (fun fr => by kernel_rfl) ?_
                  refine aw_seq (by kernel_rfl) ?_
                  refine aw_reg (id := 17) (n := 6) [(0, []), (1, []), (2, []), (3, []), (4, []), (5, [])] (by kernel_rfl) (by kernel_rfl) ?_
                  refine at_seg [(0, []), (1, [])] [(2, .int .i64 p2), (74, .ptr (some (bp0, 0))), (75, .ptr (some (h.size, 1)))] H (noU_all rfl) (fun fr => by kernel_rfl) ?_
                  intro fr H
                  refine at_step (v := .int .i64 x7.A) (h1 := h2) [(2, .int .i64 p2), (74, .ptr (some (bp0, 0))), (76, .int .i64 x7.A)] H (fun fr => by kernel_rfl) (fun fr => .of (s_ld (by kernel_rfl) (A.ld1 0 rfl (o := 1) rfl))) ?_
                  intro fr t H
                  refine at_seg [(3, [])] [(74, .ptr (some (bp0, 0))), (76, .int .i64 x7.A), (77, .int .i64 p2)] H (noU_all rfl) (fun fr => by kernel_rfl) ?_
                  intro fr H
                  replace A : HH g h2 [.obj bp0 (.cells none 2 [vs e_S_tree_Node p0.t_.Nodes, .int .i64 p0.t_.Root, .ptr (some (bp0_2, 0)), .int .i64 p0.most_, .bool p0.full_]), .obj bp0_2 (.cells none 2 [rowV rp0_2_0 p0.a_.l_.length, .int .i64 p0.a_.first_]), .lst rp0_2_0 108 (lst e_S_auto_state p0.a_.l_), .obj h.size (.cells none 2 (e_S_tree_Node x7))] F := (((A.front 3 rfl).front 3 rfl).front 3 rfl)
                  have A1 := A.cut 3
                  obtain ⟨⟨x32, x33, x34⟩, hx, hm⟩ := bind_some hm
                  obtain ⟨v1, h11, hr, r10, rfl, A1⟩ := hS.ok_auto_maker_node_sPPOII (av := [.ptr (some (bp0, 0)), .int .i64 x7.A, .int .i64 p2]) hx (by kernel_rfl) A1
                  replace A : HH g h11 [.obj bp0 (.cells none 2 [vs e_S_tree_Node x33.t_.Nodes, .int .i64 x33.t_.Root, .ptr (some (bp0_2, 0)), .int .i64 x33.most_, .bool x33.full_]), .obj bp0_2 (.cells none 2 [rowV r10 x34.length, .int .i64 p0.a_.first_]), .lst r10 108 (lst e_S_auto_state x34), .obj h.size (.cells none 2 (e_S_tree_Node x7))] F := A.glue0 (n := 3) A1
                  refine at_step (v := .int .i64 x32) (h1 := h11) [(78, .int .i64 x32)] H (fun fr => by kernel_rfl) (fun fr => Steps.call (by kernel_rfl) hr) ?_
                  intro fr t H
                  refine at_seg [(5, [])] [(6, .int .i64 x32)] H (noU_all rfl) (fun fr => by kernel_rfl) ?_
                  intro fr H
                  refine at_nil ?_
                  show AW cfg 49 g (right (left (right (right (right (right (right (right (right (right (right (right (right (left (right (right (left (right (right (bodyC cfg.P 49)))))))))))))))))))) fr h11 _
                  refine aw_ret (by kernel_rfl) ?_
                  replace A : HH g h11 [.obj bp0 (.cells none 2 [vs e_S_tree_Node x33.t_.Nodes, .int .i64 x33.t_.Root, .ptr (some (bp0_2, 0)), .int .i64 x33.most_, .bool x33.full_]), .obj bp0_2 (.cells none 2 [rowV r10 x34.length, .int .i64 p0.a_.first_]), .lst r10 108 (lst e_S_auto_state x34)] F := (HH.dropF (((A.front 2 rfl).front 2 rfl).front 2 rfl) 3)
                  exact Or.inr (Or.inl ⟨x33.t_.Nodes, x33.t_.Root, x33.most_, x33.full_, x34, x32, rfl, Option.some.inj hm, r10, H.less _ (fun fr => by kernel_rfl), A⟩)
                · replace H := H.know 72 hb (by kernel_rfl)
                  refine aw_false (x := .tmp 72) (by kernel_rfl) H (fun fr => by kernel_rfl) ?_
                  refine aw_seq (by kernel_rfl) ?_
                  refine aw_reg (id := 18) (n := 2) [(0, []), (1, [])] (by kernel_rfl) (by kernel_rfl) ?_
                  refine at_seg [(0, []), (1, [])] [(0, .ptr (some (bp0, 0))), (2, .int .i64 p2), (7, .ptr (some (h.size, 0))), (79, .bool (x7.Kind == (4 : Int)))] H (noU_all rfl) (fun fr => by kernel_rfl) ?_
                  intro fr H
                  refine at_nil ?_
                  show AW cfg 49 g (right (right (right (right (right (right (right (right (right (right (right (right (right (left (right (right (left (right (right (bodyC cfg.P 49)))))))))))))))))))) fr h2 _
                  rcases iteB_some hm with ⟨hb, hm⟩ | ⟨hb, hm⟩
                  · replace H := H.know 79 hb (by kernel_rfl)
                    refine aw_true (x := .tmp 79) (by kernel_rfl) H (fun fr => by kernel_rfl) ?_
                    refine aw_seq (by kernel_rfl) ?_
                    refine aw_reg (id := 19) (n := 3) [(0, []), (1, []), (2, [])] (by kernel_rfl) (by kernel_rfl) ?_
                    refine at_seg [(0, [])] [(0, .ptr (some (bp0, 0))), (2, .int .i64 p2), (7, .ptr (some (h.size, 0))), (81, .ptr (some (h.size, 4)))] H (noU_all rfl) (fun fr => by kernel_rfl) ?_
                    intro fr H
                    refine at_step (v := .int .i64 x7.Max) (h1 := h2) [(0, .ptr (some (bp0, 0))), (2, .int .i64 p2), (7, .ptr (some (h.size, 0))), (82, .int .i64 x7.Max)] H (fun fr => by kernel_rfl) (fun fr => .of (s_ld (by kernel_rfl) (A.ld1 0 rfl (o := 4) rfl))) ?_
                    intro fr t H
                    refine at_seg [(2, [])] [(0, .ptr (some (bp0, 0))), (2, .int .i64 p2), (7, .ptr (some (h.size, 0))), (83, .bool (x7.Max != (0 : Int)))] H (noU_all rfl) (fun fr => by kernel_rfl) ?_
                    intro fr H
                    refine at_nil ?_
                    show AW cfg 49 g (right (left (right (right (right (right (right (right (right (right (right (right (right (right (right (left (right (right (left (right (right (bodyC cfg.P 49)))))))))))))))))))))) fr h2 _
                    rcases iteB_some hm with ⟨hb, hm⟩ | ⟨hb, hm⟩
                    · replace H := H.know 83 hb (by kernel_rfl)
                      refine aw_true (x := .tmp 83) (by kernel_rfl) H (fun fr => by kernel_rfl) ?_
                      refine aw_seq (by kernel_rfl) ?_
                      refine aw_reg (id := 20) (n := 5) [(0, []), (1, []), (2, []), (3, []), (4, [])] (by kernel_rfl) (by kernel_rfl) ?_
                      refine at_seg [(0, [])] [(2, .int .i64 p2), (7, .ptr (some (h.size, 0))), (84, .ptr (some (bp0, 0)))] H (noU_all rfl) (fun fr => by kernel_rfl) ?_
                      intro fr H
                      refine at_step (v := .agg (e_S_tree_Node x7)) (h1 := h2) [(2, .int .i64 p2), (84, .ptr (some (bp0, 0))), (85, .agg (e_S_tree_Node x7))] H (fun fr => by kernel_rfl) (fun fr => .of (s_ldA (by kernel_rfl) (A.ldA 0 rfl (o := 0) (n := 10) ⟨Nat.le_of_ble_eq_true rfl, rfl⟩))) ?_
                      intro fr t H
                      refine at_seg [(2, [])] [(84, .ptr (some (bp0, 0))), (85, .agg (e_S_tree_Node x7)), (86, .int .i64 p2)] H (noU_all rfl) (fun fr => by kernel_rfl) ?_
                      intro fr H
                      replace A : HH g h2 [.obj bp0 (.cells none 2 [vs e_S_tree_Node p0.t_.Nodes, .int .i64 p0.t_.Root, .ptr (some (bp0_2, 0)), .int .i64 p0.most_, .bool p0.full_]), .obj bp0_2 (.cells none 2 [rowV rp0_2_0 p0.a_.l_.length, .int .i64 p0.a_.first_]), .lst rp0_2_0 108 (lst e_S_auto_state p0.a_.l_), .obj h.size (.cells none 2 (e_S_tree_Node x7))] F := (((A.front 3 rfl).front 3 rfl).front 3 rfl)
                      have A1 := A.cut 3
                      obtain ⟨⟨x35, x36, x37⟩, hx, hm⟩ := bind_some hm
                      obtain ⟨v1, h12, hr, r11, rfl, A1⟩ := hS.ok_auto_maker_repeat_sPPORI (av := [.ptr (some (bp0, 0)), .agg (e_S_tree_Node x7), .int .i64 p2]) hx (by kernel_rfl) A1
                      replace A : HH g h12 [.obj bp0 (.cells none 2 [vs e_S_tree_Node x36.t_.Nodes, .int .i64 x36.t_.Root, .ptr (some (bp0_2, 0)), .int .i64 x36.most_, .bool x36.full_]), .obj bp0_2 (.cells none 2 [rowV r11 x37.length, .int .i64 p0.a_.first_]), .lst r11 108 (lst e_S_auto_state x37), .obj h.size (.cells none 2 (e_S_tree_Node x7))] F := A.glue0 (n := 3) A1
                      refine at_step (v := .int .i64 x35) (h1 := h12) [(87, .int .i64 x35)] H (fun fr => by kernel_rfl) (fun fr => Steps.call (by kernel_rfl) hr) ?_
                      intro fr t H
                      refine at_seg [(4, [])] [(6, .int .i64 x35)] H (noU_all rfl) (fun fr => by kernel_rfl) ?_
                      intro fr H
                      refine at_nil ?_
                      show AW cfg 49 g (right (left (right (left (right (right (right (right (right (right (right (right (right (right (right (right (right (left (right (right (left (right (right (bodyC cfg.P 49)))))))))))))))))))))))) fr h12 _
                      refine aw_ret (by kernel_rfl) ?_
                      replace A : HH g h12 [.obj bp0 (.cells none 2 [vs e_S_tree_Node x36.t_.Nodes, .int .i64 x36.t_.Root, .ptr (some (bp0_2, 0)), .int .i64 x36.most_, .bool x36.full_]), .obj bp0_2 (.cells none 2 [rowV r11 x37.length, .int .i64 p0.a_.first_]), .lst r11 108 (lst e_S_auto_state x37)] F := (HH.dropF (((A.front 2 rfl).front 2 rfl).front 2 rfl) 3)
                      exact Or.inr (Or.inl ⟨x36.t_.Nodes, x36.t_.Root, x36.most_, x36.full_, x37, x35, rfl, Option.some.inj hm, r11, H.less _ (fun fr => by kernel_rfl), A⟩)
                    · replace H := H.know 83 hb (by kernel_rfl)
                      refine aw_false (x := .tmp 83) (by kernel_rfl) H (fun fr => by kernel_rfl) ?_
                      refine aw_skip (by kernel_rfl) ?_
                      replace A : HH g h2 [.obj bp0 (.cells none 2 [vs e_S_tree_Node p0.t_.Nodes, .int .i64 p0.t_.Root, .ptr (some (bp0_2, 0)), .int .i64 p0.most_, .bool p0.full_]), .obj bp0_2 (.cells none 2 [rowV rp0_2_0 p0.a_.l_.length, .int .i64 p0.a_.first_]), .lst rp0_2_0 108 (lst e_S_auto_state p0.a_.l_)] F := (HH.dropF (((A.front 3 rfl).front 3 rfl).front 3 rfl) 3)
                      exact Or.inl ⟨rfl, Option.some.inj hm, H.less _ (fun fr => by kernel_rfl), A⟩
                  · replace H := H.know 79 hb (by kernel_rfl)
                    refine aw_false (x := .tmp 79) (by kernel_rfl) H (fun fr => by kernel_rfl) ?_
                    refine aw_skip (by kernel_rfl) ?_
                    replace A : HH g h2 [.obj bp0 (.cells none 2 [vs e_S_tree_Node p0.t_.Nodes, .int .i64 p0.t_.Root, .ptr (some (bp0_2, 0)), .int .i64 p0.most_, .bool p0.full_]), .obj bp0_2 (.cells none 2 [rowV rp0_2_0 p0.a_.l_.length, .int .i64 p0.a_.first_]), .lst rp0_2_0 108 (lst e_S_auto_state p0.a_.l_)] F := (HH.dropF (((A.front 3 rfl).front 3 rfl).front 3 rfl) 3)
                    exact Or.inl ⟨rfl, Option.some.inj hm, H.less _ (fun fr => by kernel_rfl), A⟩
    · clear ho
      clear A
      intro e fr h13 hQ
      rcases hQ with ⟨rfl, rfl, H, A⟩ | ⟨x1, x2, x3, x4, x5, x6, rfl, rfl, r1, H, A⟩ | hF
      · skip
        show AW cfg 49 g (right (right (right (bodyC cfg.P 49)))) fr h13 _
        refine aw_seq (by kernel_rfl) ?_
        refine aw_reg (id := 21) (n := 6) [(0, []), (1, []), (2, []), (3, []), (4, []), (5, [])] (by kernel_rfl) (by kernel_rfl) ?_
        refine at_seg [(0, []), (1, []), (2, []), (3, [])] [(88, .ptr (some (bp0, 0))), (91, .agg [.int .i64 (2 : Int), .int .i64 p2, .int .i64 p2, .int .u64 (0 : Int), .int .u64 (0 : Int), .int .u64 (0 : Int), .int .u64 (0 : Int)])] H (noU_all rfl) (fun fr => by kernel_rfl) ?_
        intro fr H
        have A1 := A.cut 3
        obtain ⟨⟨x38, x39, x40⟩, hx, hm⟩ := bind_some hm
        obtain ⟨v1, h14, hr, r12, rfl, A1⟩ := ok_auto_maker_lay_sPPOR (av := [.ptr (some (bp0, 0)), .agg [.int .i64 (2 : Int), .int .i64 p2, .int .i64 p2, .int .u64 (0 : Int), .int .u64 (0 : Int), .int .u64 (0 : Int), .int .u64 (0 : Int)]]) hx (by kernel_rfl) A1
        replace A : HH g h14 [.obj bp0 (.cells none 2 [vs e_S_tree_Node x39.t_.Nodes, .int .i64 x39.t_.Root, .ptr (some (bp0_2, 0)), .int .i64 x39.most_, .bool x39.full_]), .obj bp0_2 (.cells none 2 [rowV r12 x40.length, .int .i64 p0.a_.first_]), .lst r12 108 (lst e_S_auto_state x40)] F := A.glue0 (n := 3) A1
        refine at_step (v := .int .i64 x38) (h1 := h14) [(92, .int .i64 x38)] H (fun fr => by kernel_rfl) (fun fr => Steps.call (by kernel_rfl) hr) ?_
        intro fr t H
        refine at_seg [(5, [])] [(6, .int .i64 x38)] H (noU_all rfl) (fun fr => by kernel_rfl) ?_
        intro fr H
        refine at_nil ?_
        show AW cfg 49 g (right (right (right (right (bodyC cfg.P 49))))) fr h14 _
        refine aw_ret (by kernel_rfl) ?_
        have e0 := Option.some.inj hm
        obtain ⟨y0, z0⟩ := Prod.mk.inj e0
        obtain ⟨y1, z1⟩ := Prod.mk.inj z0
        subst y0
        subst y1
        subst z1
        refine ⟨.inl rfl, .int .i64 x38, resH H (fun fr => by kernel_rfl), ?_⟩
        exact ⟨r12, rfl, A⟩
      · skip
        have e0 := Option.some.inj hm
        obtain ⟨y0, z0⟩ := Prod.mk.inj e0
        obtain ⟨y1, z1⟩ := Prod.mk.inj z0
        subst y0
        subst y1
        subst z1
        refine ⟨.inl rfl, .int .i64 x6, resH H (fun fr => by kernel_rfl), ?_⟩
        exact ⟨r1, rfl, A⟩
      · exact hF.elim
/-! ### (*boulter/auto.maker).repeat -/
noncomputable def M_auto_maker_repeat_sPPORI_L0 (S : SC_auto_maker_repeat_1_sIPPPOP) (p0 : S_auto_maker) (p1 : S_tree_Node) (p2 : Int) (s : (List S_tree_Node) × Int × Int × Bool × (List S_auto_state) × Int × Int) : Option (((List S_tree_Node) × Int × Int × Bool × (List S_auto_state) × Int × Int) ⊕ (((List S_tree_Node) × Int × Int × Bool × (List S_auto_state) × Int))) :=
  match s with
  | (x14, x15, x16, x17, x18, x19, x20) => iteB ((decide (x20 > p1.Min)) && (!x17)) ((S.M_auto_maker_repeat_1_sIPPPOP x19 (⟨(⟨x14, x15⟩ : S_tree_Tree), (⟨x18, p0.a_.first_⟩ : S_auto_Auto), x16, x17⟩ : S_auto_maker) p1).bind fun (x27, x28, x29) => (M_auto_maker_repeat_2_sIIPPPO x27 p2 (⟨x28.t_, (⟨x29, p0.a_.first_⟩ : S_auto_Auto), x28.most_, x28.full_⟩ : S_auto_maker)).bind fun (x30, x31, x32) => some (.inl (x31.t_.Nodes, x31.t_.Root, x31.most_, x31.full_, x32, x30, IntKind.i64.wrap (x20 - (1 : Int))))) (some (.inr (x14, x15, x16, x17, x18, x19)))
noncomputable def M_auto_maker_repeat_sPPORI_L1 (S : SC_auto_maker_repeat_1_sIPPPOP) (p0 : S_auto_maker) (p1 : S_tree_Node) (s : (List S_tree_Node) × Int × Int × Bool × (List S_auto_state) × Int × Int) : Option (((List S_tree_Node) × Int × Int × Bool × (List S_auto_state) × Int × Int) ⊕ (((List S_tree_Node) × Int × Int × Bool × (List S_auto_state) × Int))) :=
  match s with
  | (x33, x34, x35, x36, x37, x38, x39) => iteB ((decide (x39 < p1.Min)) && (!x36)) ((S.M_auto_maker_repeat_1_sIPPPOP x38 (⟨(⟨x33, x34⟩ : S_tree_Tree), (⟨x37, p0.a_.first_⟩ : S_auto_Auto), x35, x36⟩ : S_auto_maker) p1).bind fun (x46, x47, x48) => some (.inl (x47.t_.Nodes, x47.t_.Root, x47.most_, x47.full_, x48, x46, IntKind.i64.wrap (x39 + (1 : Int))))) (some (.inr (x33, x34, x35, x36, x37, x38)))
noncomputable def B_auto_maker_repeat_sPPORI (S : SC_auto_maker_repeat_1_sIPPPOP) (p0 : S_auto_maker) (p1 : S_tree_Node) (p2 : Int) : Option (Int × S_auto_maker × (List S_auto_state)) :=
 (iteB (decide (p1.Max < (0 : Int))) ((M_auto_maker_repeat_2_sIIPPPO p2 p2 p0).bind fun (x7, x8, x9) => (S.M_auto_maker_repeat_1_sIPPPOP x7 (⟨x8.t_, (⟨x9, p0.a_.first_⟩ : S_auto_Auto), x8.most_, x8.full_⟩ : S_auto_maker) p1).bind fun (x10, x11, x12) => iteB (!x11.full_) ((ixV x12 x7).bind fun x13 => some (x11.t_.Nodes, x11.t_.Root, x11.most_, x11.full_, (x12.set x7.toNat (⟨x13.kind_, x10, x13.b_, x13.set_⟩ : S_auto_state)), x7)) (some (x11.t_.Nodes, x11.t_.Root, x11.most_, x11.full_, x12, x7))) ((loop (M_auto_maker_repeat_sPPORI_L0 S p0 p1 p2) (p0.t_.Nodes, p0.t_.Root, p0.most_, p0.full_, p0.a_.l_, p2, p1.Max)).bind fun (x21, x22, x23, x24, x25, x26) => some (x21, x22, x23, x24, x25, x26)) : Option (((List S_tree_Node) × Int × Int × Bool × (List S_auto_state) × Int))).bind fun (x1, x2, x3, x4, x5, x6) => (loop (M_auto_maker_repeat_sPPORI_L1 S p0 p1) (x1, x2, x3, x4, x5, x6, (0 : Int))).bind fun (x40, x41, x42, x43, x44, x45) => some (x45, (⟨(⟨x40, x41⟩ : S_tree_Tree), (⟨x44, p0.a_.first_⟩ : S_auto_Auto), x42, x43⟩ : S_auto_maker), x44)
theorem okB_auto_maker_repeat_sPPORI {S : SC_auto_maker_repeat_1_sIPPPOP} (hS : OkSC_auto_maker_repeat_1_sIPPPOP S) {g : Gd} {h : AHeap} {F : List Ck} {p0 : S_auto_maker} {p1 : S_tree_Node} {p2 : Int} {bp0 : Nat} {bp0_2 : Nat} {rp0_2_0 : Option Nat} {q0 : Int} {u0 : S_auto_maker} {u2 : List S_auto_state} {av : List AVal} (hm : B_auto_maker_repeat_sPPORI S p0 p1 p2 = some (q0, u0, u2)) (hc : canL (cfg.still 66) av = [.ptr (some (bp0, 0)), .agg (e_S_tree_Node p1), .int .i64 p2]) (A : HH g h [.obj bp0 (.cells none 2 [vs e_S_tree_Node p0.t_.Nodes, .int .i64 p0.t_.Root, .ptr (some (bp0_2, 0)), .int .i64 p0.most_, .bool p0.full_]), .obj bp0_2 (.cells none 2 [rowV rp0_2_0 p0.a_.l_.length, .int .i64 p0.a_.first_]), .lst rp0_2_0 108 (lst e_S_auto_state p0.a_.l_)] F) : ∃ v h', Runs cfg g h 66 av v h' ∧ ∃ (r'2 : Option Nat), v = .int .i64 q0 ∧ HH g h' [.obj bp0 (.cells none 2 [vs e_S_tree_Node u0.t_.Nodes, .int .i64 u0.t_.Root, .ptr (some (bp0_2, 0)), .int .i64 u0.most_, .bool u0.full_]), .obj bp0_2 (.cells none 2 [rowV r'2 u2.length, .int .i64 p0.a_.first_]), .lst r'2 108 (lst e_S_auto_state u2)] F := by
  refine runsQ1 (n := 80) (rs := [.tmp 6]) (by kernel_rfl) hc (by kernel_rfl) ?_
  clear hc
  unfold B_auto_maker_repeat_sPPORI at hm
  refine start (n := 80) [(0, .ptr (some (bp0, 0))), (1, .agg (e_S_tree_Node p1)), (2, .int .i64 p2)] (by kernel_rfl) (by kernel_rfl) ?_
  intro fr H
  refine aw_seq (by kernel_rfl) ?_
  refine aw_reg (id := 0) (n := 3) [(0, []), (1, []), (2, [])] (by kernel_rfl) (by kernel_rfl) ?_
  obtain ⟨h1, e1⟩ : ∃ x, x = h.push (.cells none 2 [.ptr (some (bp0, 0))]) := ⟨_, rfl⟩
  replace A := (A.push _).to e1
  refine at_step (v := .ptr (some (h.size, 0))) (h1 := h1) [(1, .agg (e_S_tree_Node p1)), (2, .int .i64 p2), (3, .ptr (some (h.size, 0)))] H (fun fr => by kernel_rfl) (fun fr => .of (s_n' (by kernel_rfl) (congrArg some e1.symm))) ?_
  intro fr t H
  obtain ⟨h2, e2⟩ : ∃ x, x = h1.push (.cells none 2 (e_S_tree_Node p1)) := ⟨_, rfl⟩
  replace A := (A.push _).to e2
  refine at_step (v := .ptr (some (h1.size, 0))) (h1 := h2) [(2, .int .i64 p2), (3, .ptr (some (h.size, 0))), (4, .ptr (some (h1.size, 0)))] H (fun fr => by kernel_rfl) (fun fr => .of (s_n' (by kernel_rfl) (congrArg some e2.symm))) ?_
  intro fr t H
  refine at_seg [(2, [])] [(2, .int .i64 p2), (3, .ptr (some (h.size, 0))), (4, .ptr (some (h1.size, 0)))] H (noU_all rfl) (fun fr => by kernel_rfl) ?_
  intro fr H
  refine at_nil ?_
  show AW cfg 66 g (right (bodyC cfg.P 66)) fr h2 _
  refine aw_seq (by kernel_rfl) ?_
  refine aw_reg (id := 1) (n := 2) [(0, []), (1, [])] (by kernel_rfl) (by kernel_rfl) ?_
  refine at_seg [(0, []), (1, [])] [(2, .int .i64 p2), (3, .ptr (some (h.size, 0))), (4, .ptr (some (h1.size, 0))), (7, .func (.func 82) [] [.ptr (some (h.size, 0)), .ptr (some (h1.size, 0))])] H (noU_all rfl) (fun fr => by kernel_rfl) ?_
  intro fr H
  refine at_nil ?_
  show AW cfg 66 g (right (right (bodyC cfg.P 66))) fr h2 _
  refine aw_seq (by kernel_rfl) ?_
  refine aw_reg (id := 2) (n := 2) [(0, []), (1, [])] (by kernel_rfl) (by kernel_rfl) ?_
  refine at_seg [(0, []), (1, [])] [(2, .int .i64 p2), (3, .ptr (some (h.size, 0))), (4, .ptr (some (h1.size, 0))), (7, .func (.func 82) [] [.ptr (some (h.size, 0)), .ptr (some (h1.size, 0))]), (8, .func (.func 83) [] [.ptr (some (h.size, 0))])] H (noU_all rfl) (fun fr => by kernel_rfl) ?_
  intro fr H
  refine at_nil ?_
  show AW cfg 66 g (right (right (right (bodyC cfg.P 66)))) fr h2 _
  refine aw_seq (by kernel_rfl) ?_
  refine aw_reg (id := 3) (n := 2) [(0, []), (1, [])] (by kernel_rfl) (by kernel_rfl) ?_
  refine at_seg [(0, []), (1, [])] [(2, .int .i64 p2), (3, .ptr (some (h.size, 0))), (4, .ptr (some (h1.size, 0))), (7, .func (.func 82) [] [.ptr (some (h.size, 0)), .ptr (some (h1.size, 0))]), (8, .func (.func 83) [] [.ptr (some (h.size, 0))]), (9, .int .i64 p2)] H (noU_all rfl) (fun fr => by kernel_rfl) ?_
  intro fr H
  refine at_nil ?_
  show AW cfg 66 g (right (right (right (right (bodyC cfg.P 66))))) fr h2 _
  refine aw_seq (by kernel_rfl) ?_
  obtain ⟨o1, ho, hm⟩ := bind_some hm
  refine aw_mono (Q' := fun e fr' h' => (∃ (x1 : List S_tree_Node) (x2 : Int) (x3 : Int) (x4 : Bool) (x5 : List S_auto_state) (x6 : Int), e = .normal ∧ (x1, x2, x3, x4, x5, x6) = o1 ∧ ∃ (r1 : Option Nat), Has fr' 80 [(3, .ptr (some (h.size, 0))), (4, .ptr (some (h1.size, 0))), (7, .func (.func 82) [] [.ptr (some (h.size, 0)), .ptr (some (h1.size, 0))]), (9, .int .i64 x6)] ∧ HH g h' [.obj h1.size (.cells none 2 (e_S_tree_Node p1)), .obj h.size (.cells none 2 [.ptr (some (bp0, 0))]), .obj bp0 (.cells none 2 [vs e_S_tree_Node x1, .int .i64 x2, .ptr (some (bp0_2, 0)), .int .i64 x3, .bool x4]), .obj bp0_2 (.cells none 2 [rowV r1 x5.length, .int .i64 p0.a_.first_]), .lst r1 108 (lst e_S_auto_state x5)] F) ∨ False) ?_ ?_
  · replace hm := ho
    clear ho
    refine aw_seq (by kernel_rfl) ?_
    refine aw_reg (id := 4) (n := 3) [(0, []), (1, []), (2, [])] (by kernel_rfl) (by kernel_rfl) ?_
    refine at_seg [(0, [])] [(2, .int .i64 p2), (3, .ptr (some (h.size, 0))), (4, .ptr (some (h1.size, 0))), (7, .func (.func 82) [] [.ptr (some (h.size, 0)), .ptr (some (h1.size, 0))]), (8, .func (.func 83) [] [.ptr (some (h.size, 0))]), (9, .int .i64 p2), (16, .ptr (some (h1.size, 4)))] H (noU_all rfl) (fun fr => by kernel_rfl) ?_
    intro fr H
    refine at_step (v := .int .i64 p1.Max) (h1 := h2) [(2, .int .i64 p2), (3, .ptr (some (h.size, 0))), (4, .ptr (some (h1.size, 0))), (7, .func (.func 82) [] [.ptr (some (h.size, 0)), .ptr (some (h1.size, 0))]), (8, .func (.func 83) [] [.ptr (some (h.size, 0))]), (9, .int .i64 p2), (17, .int .i64 p1.Max)] H (fun fr => by kernel_rfl) (fun fr => .of (s_ld (by kernel_rfl) (A.ld1 0 rfl (o := 4) rfl))) ?_
    intro fr t H
    refine at_seg [(2, [])] [(2, .int .i64 p2), (3, .ptr (some (h.size, 0))), (4, .ptr (some (h1.size, 0))), (7, .func (.func 82) [] [.ptr (some (h.size, 0)), .ptr (some (h1.size, 0))]), (8, .func (.func 83) [] [.ptr (some (h.size, 0))]), (9, .int .i64 p2), (18, .bool (decide (p1.Max < (0 : Int))))] H (noU_all rfl) (fun fr => by kernel_rfl) ?_
    intro fr H
    refine at_nil ?_
    show AW cfg 66 g (right (left (right (right (right (right (bodyC cfg.P 66))))))) fr h2 _
    rcases iteB_some hm with ⟨hb, hm⟩ | ⟨hb, hm⟩
    · replace H := H.know 18 hb (by kernel_rfl)
      refine aw_true (x := .tmp 18) (by kernel_rfl) H (fun fr => by kernel_rfl) ?_
      refine aw_seq (by kernel_rfl) ?_
      refine aw_reg (id := 5) (n := 5) [(0, []), (1, []), (2, []), (3, []), (4, [])] (by kernel_rfl) (by kernel_rfl) ?_
      refine at_seg [(0, []), (1, []), (2, [])] [(3, .ptr (some (h.size, 0))), (4, .ptr (some (h1.size, 0))), (7, .func (.func 82) [] [.ptr (some (h.size, 0)), .ptr (some (h1.size, 0))]), (19, .func (.func 83) [] [.ptr (some (h.size, 0))]), (20, .int .i64 p2), (21, .int .i64 p2)] H (noU_all rfl) (fun fr => by kernel_rfl) ?_
      intro fr H
      replace A : HH g h2 [.obj h.size (.cells none 2 [.ptr (some (bp0, 0))]), .obj bp0 (.cells none 2 [vs e_S_tree_Node p0.t_.Nodes, .int .i64 p0.t_.Root, .ptr (some (bp0_2, 0)), .int .i64 p0.most_, .bool p0.full_]), .obj bp0_2 (.cells none 2 [rowV rp0_2_0 p0.a_.l_.length, .int .i64 p0.a_.first_]), .lst rp0_2_0 108 (lst e_S_auto_state p0.a_.l_), .obj h1.size (.cells none 2 (e_S_tree_Node p1))] F := ((((A.front 4 rfl).front 4 rfl).front 4 rfl).front 4 rfl)
      have A1 := A.cut 4
      obtain ⟨⟨x7, x8, x9⟩, hx, hm⟩ := bind_some hm
      obtain ⟨v1, h3, hr, r2, rfl, A1⟩ := ok_auto_maker_repeat_2_sIIPPPO (av := [.int .i64 p2, .int .i64 p2, .ptr (some (h.size, 0))]) hx (by kernel_rfl) A1
      replace A : HH g h3 [.obj h.size (.cells none 2 [.ptr (some (bp0, 0))]), .obj bp0 (.cells none 2 [vs e_S_tree_Node x8.t_.Nodes, .int .i64 x8.t_.Root, .ptr (some (bp0_2, 0)), .int .i64 x8.most_, .bool x8.full_]), .obj bp0_2 (.cells none 2 [rowV r2 x9.length, .int .i64 p0.a_.first_]), .lst r2 108 (lst e_S_auto_state x9), .obj h1.size (.cells none 2 (e_S_tree_Node p1))] F := A.glue0 (n := 4) A1
      refine at_step (v := .int .i64 x7) (h1 := h3) [(3, .ptr (some (h.size, 0))), (4, .ptr (some (h1.size, 0))), (7, .func (.func 82) [] [.ptr (some (h.size, 0)), .ptr (some (h1.size, 0))]), (22, .int .i64 x7)] H (fun fr => by kernel_rfl) (fun fr => Steps.call (by kernel_rfl) hr) ?_
      intro fr t H
      refine at_seg [(4, [])] [(3, .ptr (some (h.size, 0))), (4, .ptr (some (h1.size, 0))), (7, .func (.func 82) [] [.ptr (some (h.size, 0)), .ptr (some (h1.size, 0))]), (9, .int .i64 x7)] H (noU_all rfl) (fun fr => by kernel_rfl) ?_
      intro fr H
      refine at_nil ?_
      show AW cfg 66 g (right (left (right (left (right (right (right (right (bodyC cfg.P 66))))))))) fr h3 _
      refine aw_seq (by kernel_rfl) ?_
      refine aw_reg (id := 6) (n := 4) [(0, []), (1, []), (2, []), (3, [])] (by kernel_rfl) (by kernel_rfl) ?_
      refine at_seg [(0, []), (1, [])] [(3, .ptr (some (h.size, 0))), (4, .ptr (some (h1.size, 0))), (7, .func (.func 82) [] [.ptr (some (h.size, 0)), .ptr (some (h1.size, 0))]), (9, .int .i64 x7), (23, .func (.func 82) [] [.ptr (some (h.size, 0)), .ptr (some (h1.size, 0))]), (24, .int .i64 x7)] H (noU_all rfl) (fun fr => by kernel_rfl) ?_
      intro fr H
      have A1 := A.cut 5
      obtain ⟨⟨x10, x11, x12⟩, hx, hm⟩ := bind_some hm
      obtain ⟨v1, h4, hr, r3, rfl, A1⟩ := hS.ok_auto_maker_repeat_1_sIPPPOP (av := [.int .i64 x7, .ptr (some (h.size, 0)), .ptr (some (h1.size, 0))]) hx (by kernel_rfl) A1
      replace A : HH g h4 [.obj h.size (.cells none 2 [.ptr (some (bp0, 0))]), .obj bp0 (.cells none 2 [vs e_S_tree_Node x11.t_.Nodes, .int .i64 x11.t_.Root, .ptr (some (bp0_2, 0)), .int .i64 x11.most_, .bool x11.full_]), .obj bp0_2 (.cells none 2 [rowV r3 x12.length, .int .i64 p0.a_.first_]), .lst r3 108 (lst e_S_auto_state x12), .obj h1.size (.cells none 2 (e_S_tree_Node p1))] F := A.glue0 (n := 5) A1
      refine at_step (v := .int .i64 x10) (h1 := h4) [(3, .ptr (some (h.size, 0))), (4, .ptr (some (h1.size, 0))), (7, .func (.func 82) [] [.ptr (some (h.size, 0)), .ptr (some (h1.size, 0))]), (9, .int .i64 x7), (25, .int .i64 x10)] H (fun fr => by kernel_rfl) (fun fr => Steps.call (by kernel_rfl) hr) ?_
      intro fr t H
      refine at_seg [(3, [])] [(3, .ptr (some (h.size, 0))), (4, .ptr (some (h1.size, 0))), (7, .func (.func 82) [] [.ptr (some (h.size, 0)), .ptr (some (h1.size, 0))]), (9, .int .i64 x7), (10, .int .i64 x10)] H (noU_all rfl) (fun fr => by kernel_rfl) ?_
      intro fr H
      refine at_nil ?_
      show AW cfg 66 g (right (right (left (right (left (right (right (right (right (bodyC cfg.P 66)))))))))) fr h4 _
      refine aw_seq (by kernel_rfl) ?_
      refine aw_reg (id := 7) (n := 5) [(0, []), (1, []), (2, []), (3, []), (4, [])] (by kernel_rfl) (by kernel_rfl) ?_
      refine at_step (v := .ptr (some (bp0, 0))) (h1 := h4) [(3, .ptr (some (h.size, 0))), (4, .ptr (some (h1.size, 0))), (7, .func (.func 82) [] [.ptr (some (h.size, 0)), .ptr (some (h1.size, 0))]), (9, .int .i64 x7), (10, .int .i64 x10), (26, .ptr (some (bp0, 0)))] H (fun fr => by kernel_rfl) (fun fr => .of (s_ld (by kernel_rfl) (A.ld1 0 rfl (o := 0) rfl))) ?_
      intro fr t H
      refine at_seg [(1, []), (2, [])] [(3, .ptr (some (h.size, 0))), (4, .ptr (some (h1.size, 0))), (7, .func (.func 82) [] [.ptr (some (h.size, 0)), .ptr (some (h1.size, 0))]), (9, .int .i64 x7), (10, .int .i64 x10), (28, .ptr (some (bp0, 4)))] H (noU_all rfl) (fun fr => by kernel_rfl) ?_
      intro fr H
      refine at_step (v := .bool x11.full_) (h1 := h4) [(3, .ptr (some (h.size, 0))), (4, .ptr (some (h1.size, 0))), (7, .func (.func 82) [] [.ptr (some (h.size, 0)), .ptr (some (h1.size, 0))]), (9, .int .i64 x7), (10, .int .i64 x10), (29, .bool x11.full_)] H (fun fr => by kernel_rfl) (fun fr => .of (s_ld (by kernel_rfl) (A.ld1 1 rfl (o := 4) rfl))) ?_
      intro fr t H
      refine at_seg [(4, [])] [(3, .ptr (some (h.size, 0))), (4, .ptr (some (h1.size, 0))), (7, .func (.func 82) [] [.ptr (some (h.size, 0)), .ptr (some (h1.size, 0))]), (9, .int .i64 x7), (10, .int .i64 x10), (30, .bool (!x11.full_))] H (noU_all rfl) (fun fr => by kernel_rfl) ?_
      intro fr H
      refine at_nil ?_
      show AW cfg 66 g (right (right (right (left (right (left (right (right (right (right (bodyC cfg.P 66))))))))))) fr h4 _
      rcases iteB_some hm with ⟨hb, hm⟩ | ⟨hb, hm⟩
      · replace H := H.know 30 hb (by kernel_rfl)
        refine aw_true (x := .tmp 30) (by kernel_rfl) H (fun fr => by kernel_rfl) ?_
        refine aw_reg (id := 8) (n := 12) [(0, []), (1, []), (2, []), (3, []), (4, []), (5, []), (6, []), (7, []), (8, []), (9, []), (10, []), (11, [])] (by kernel_rfl) (by kernel_rfl) ?_
        refine at_step (v := .ptr (some (bp0, 0))) (h1 := h4) [(3, .ptr (some (h.size, 0))), (4, .ptr (some (h1.size, 0))), (7, .func (.func 82) [] [.ptr (some (h.size, 0)), .ptr (some (h1.size, 0))]), (9, .int .i64 x7), (10, .int .i64 x10), (31, .ptr (some (bp0, 0)))] H (fun fr => by kernel_rfl) (fun fr => .of (s_ld (by kernel_rfl) (A.ld1 0 rfl (o := 0) rfl))) ?_
        intro fr t H
        refine at_seg [(1, []), (2, [])] [(3, .ptr (some (h.size, 0))), (4, .ptr (some (h1.size, 0))), (7, .func (.func 82) [] [.ptr (some (h.size, 0)), .ptr (some (h1.size, 0))]), (9, .int .i64 x7), (10, .int .i64 x10), (33, .ptr (some (bp0, 2)))] H (noU_all rfl) (fun fr => by kernel_rfl) ?_
        intro fr H
        refine at_step (v := .ptr (some (bp0_2, 0))) (h1 := h4) [(3, .ptr (some (h.size, 0))), (4, .ptr (some (h1.size, 0))), (7, .func (.func 82) [] [.ptr (some (h.size, 0)), .ptr (some (h1.size, 0))]), (9, .int .i64 x7), (10, .int .i64 x10), (34, .ptr (some (bp0_2, 0)))] H (fun fr => by kernel_rfl) (fun fr => .of (s_ld (by kernel_rfl) (A.ld1 1 rfl (o := 2) rfl))) ?_
        intro fr t H
        refine at_seg [(4, []), (5, [])] [(3, .ptr (some (h.size, 0))), (4, .ptr (some (h1.size, 0))), (7, .func (.func 82) [] [.ptr (some (h.size, 0)), .ptr (some (h1.size, 0))]), (9, .int .i64 x7), (10, .int .i64 x10), (36, .ptr (some (bp0_2, 0)))] H (noU_all rfl) (fun fr => by kernel_rfl) ?_
        intro fr H
        refine at_step (v := rowV r3 x12.length) (h1 := h4) [(3, .ptr (some (h.size, 0))), (4, .ptr (some (h1.size, 0))), (7, .func (.func 82) [] [.ptr (some (h.size, 0)), .ptr (some (h1.size, 0))]), (9, .int .i64 x7), (10, .int .i64 x10), (37, rowV r3 x12.length)] H (fun fr => by kernel_rfl) (fun fr => .of (s_ld (by kernel_rfl) (A.ld1 2 rfl (o := 0) rfl))) ?_
        intro fr t H
        refine at_seg [(7, []), (8, [])] [(3, .ptr (some (h.size, 0))), (4, .ptr (some (h1.size, 0))), (7, .func (.func 82) [] [.ptr (some (h.size, 0)), .ptr (some (h1.size, 0))]), (9, .int .i64 x7), (37, rowV r3 x12.length), (38, .int .i64 x7), (39, .int .i64 x10)] H (noU_all rfl) (fun fr => by kernel_rfl) ?_
        intro fr H
        obtain ⟨x13, hx, hm⟩ := bind_some hm
        obtain ⟨i1, er1, _, hx, hq1⟩ := HH.ixO enc_S_auto_state (by decide) A 3 (xs := x12) rfl hx
        refine at_step (v := .ptr (some (i1, x7.toNat * 7))) (h1 := h4) [(3, .ptr (some (h.size, 0))), (4, .ptr (some (h1.size, 0))), (7, .func (.func 82) [] [.ptr (some (h.size, 0)), .ptr (some (h1.size, 0))]), (9, .int .i64 x7), (39, .int .i64 x10), (40, .ptr (some (i1, x7.toNat * 7)))] H (fun fr => by kernel_rfl) (fun fr => .of (s_ixL (s := rowS r3 x12.length) (by kernel_rfl) hx)) ?_
        intro fr t H
        refine at_seg [(10, [])] [(3, .ptr (some (h.size, 0))), (4, .ptr (some (h1.size, 0))), (7, .func (.func 82) [] [.ptr (some (h.size, 0)), .ptr (some (h1.size, 0))]), (9, .int .i64 x7), (39, .int .i64 x10), (41, .ptr (some (i1, x7.toNat * 7 + 1)))] H (noU_all rfl) (fun fr => by kernel_rfl) ?_
        intro fr H
        obtain ⟨h5, hx, A1⟩ := HH.stO enc_S_auto_state A 3 rfl er1 hq1 (y := (⟨x13.kind_, x10, x13.b_, x13.set_⟩ : S_auto_state)) (o := 1) (new := [.int .i64 x10]) rfl rfl (Nat.le_of_ble_eq_true rfl)
        have hl1 : (x12.set x7.toNat (⟨x13.kind_, x10, x13.b_, x13.set_⟩ : S_auto_state)).length = x12.length := List.length_set
        have el : rowV r3 x12.length = rowV r3 (x12.set x7.toNat (⟨x13.kind_, x10, x13.b_, x13.set_⟩ : S_auto_state)).length := congrArg _ List.length_set.symm
        try rw [el] at H
        try rw [el] at A1
        replace A : HH g h5 [.obj h.size (.cells none 2 [.ptr (some (bp0, 0))]), .obj bp0 (.cells none 2 [vs e_S_tree_Node x11.t_.Nodes, .int .i64 x11.t_.Root, .ptr (some (bp0_2, 0)), .int .i64 x11.most_, .bool x11.full_]), .obj bp0_2 (.cells none 2 [rowV r3 ((x12.set x7.toNat (⟨x13.kind_, x10, x13.b_, x13.set_⟩ : S_auto_state)).length), .int .i64 p0.a_.first_]), .lst r3 108 (lst e_S_auto_state (x12.set x7.toNat (⟨x13.kind_, x10, x13.b_, x13.set_⟩ : S_auto_state))), .obj h1.size (.cells none 2 (e_S_tree_Node p1))] F := A1
        refine at_step (v := .tuple []) (h1 := h5) [(3, .ptr (some (h.size, 0))), (4, .ptr (some (h1.size, 0))), (7, .func (.func 82) [] [.ptr (some (h.size, 0)), .ptr (some (h1.size, 0))]), (9, .int .i64 x7)] H (fun fr => by kernel_rfl) (fun fr => .of (s_st (by kernel_rfl) rfl hx)) ?_
        intro fr t H
        refine at_nil ?_
        replace A : HH g h5 [.obj h1.size (.cells none 2 (e_S_tree_Node p1)), .obj h.size (.cells none 2 [.ptr (some (bp0, 0))]), .obj bp0 (.cells none 2 [vs e_S_tree_Node x11.t_.Nodes, .int .i64 x11.t_.Root, .ptr (some (bp0_2, 0)), .int .i64 x11.most_, .bool x11.full_]), .obj bp0_2 (.cells none 2 [rowV r3 ((x12.set x7.toNat (⟨x13.kind_, x10, x13.b_, x13.set_⟩ : S_auto_state)).length), .int .i64 p0.a_.first_]), .lst r3 108 (lst e_S_auto_state (x12.set x7.toNat (⟨x13.kind_, x10, x13.b_, x13.set_⟩ : S_auto_state)))] F := (((((A.front 3 rfl).front 3 rfl).front 3 rfl).front 3 rfl).front 4 rfl)
        exact Or.inl ⟨x11.t_.Nodes, x11.t_.Root, x11.most_, x11.full_, (x12.set x7.toNat (⟨x13.kind_, x10, x13.b_, x13.set_⟩ : S_auto_state)), x7, rfl, Option.some.inj hm, r3, H.less _ (fun fr => by kernel_rfl), A⟩
      · replace H := H.know 30 hb (by kernel_rfl)
        refine aw_false (x := .tmp 30) (by kernel_rfl) H (fun fr => by kernel_rfl) ?_
        refine aw_skip (by kernel_rfl) ?_
        replace A : HH g h4 [.obj h1.size (.cells none 2 (e_S_tree_Node p1)), .obj h.size (.cells none 2 [.ptr (some (bp0, 0))]), .obj bp0 (.cells none 2 [vs e_S_tree_Node x11.t_.Nodes, .int .i64 x11.t_.Root, .ptr (some (bp0_2, 0)), .int .i64 x11.most_, .bool x11.full_]), .obj bp0_2 (.cells none 2 [rowV r3 x12.length, .int .i64 p0.a_.first_]), .lst r3 108 (lst e_S_auto_state x12)] F := (((((A.front 3 rfl).front 3 rfl).front 3 rfl).front 3 rfl).front 4 rfl)
        exact Or.inl ⟨x11.t_.Nodes, x11.t_.Root, x11.most_, x11.full_, x12, x7, rfl, Option.some.inj hm, r3, H.less _ (fun fr => by kernel_rfl), A⟩
    · replace H := H.know 18 hb (by kernel_rfl)
      refine aw_false (x := .tmp 18) (by kernel_rfl) H (fun fr => by kernel_rfl) ?_
      refine aw_seq (by kernel_rfl) ?_
      refine aw_reg (id := 9) (n := 3) [(0, []), (1, []), (2, [])] (by kernel_rfl) (by kernel_rfl) ?_
      refine at_seg [(0, [])] [(2, .int .i64 p2), (3, .ptr (some (h.size, 0))), (4, .ptr (some (h1.size, 0))), (7, .func (.func 82) [] [.ptr (some (h.size, 0)), .ptr (some (h1.size, 0))]), (8, .func (.func 83) [] [.ptr (some (h.size, 0))]), (9, .int .i64 p2), (42, .ptr (some (h1.size, 4)))] H (noU_all rfl) (fun fr => by kernel_rfl) ?_
      intro fr H
      refine at_step (v := .int .i64 p1.Max) (h1 := h2) [(2, .int .i64 p2), (3, .ptr (some (h.size, 0))), (4, .ptr (some (h1.size, 0))), (7, .func (.func 82) [] [.ptr (some (h.size, 0)), .ptr (some (h1.size, 0))]), (8, .func (.func 83) [] [.ptr (some (h.size, 0))]), (9, .int .i64 p2), (43, .int .i64 p1.Max)] H (fun fr => by kernel_rfl) (fun fr => .of (s_ld (by kernel_rfl) (A.ld1 0 rfl (o := 4) rfl))) ?_
      intro fr t H
      refine at_seg [(2, [])] [(2, .int .i64 p2), (3, .ptr (some (h.size, 0))), (4, .ptr (some (h1.size, 0))), (7, .func (.func 82) [] [.ptr (some (h.size, 0)), .ptr (some (h1.size, 0))]), (8, .func (.func 83) [] [.ptr (some (h.size, 0))]), (9, .int .i64 p2), (11, .int .i64 p1.Max)] H (noU_all rfl) (fun fr => by kernel_rfl) ?_
      intro fr H
      refine at_nil ?_
      show AW cfg 66 g (right (right (right (left (right (right (right (right (bodyC cfg.P 66))))))))) fr h2 _
      refine aw_block (id := 0) (by kernel_rfl) ?_
      obtain ⟨o2, ho, hm⟩ := bind_some hm
      refine aw_mono (Q' := fun e fr' h' => (∃ (x21 : List S_tree_Node) (x22 : Int) (x23 : Int) (x24 : Bool) (x25 : List S_auto_state) (x26 : Int), e = .exit 0 ∧ (x21, x22, x23, x24, x25, x26) = o2 ∧ ∃ (r5 : Option Nat), Has fr' 80 [(3, .ptr (some (h.size, 0))), (4, .ptr (some (h1.size, 0))), (7, .func (.func 82) [] [.ptr (some (h.size, 0)), .ptr (some (h1.size, 0))]), (9, .int .i64 x26)] ∧ HH g h' [.obj h1.size (.cells none 2 (e_S_tree_Node p1)), .obj h.size (.cells none 2 [.ptr (some (bp0, 0))]), .obj bp0 (.cells none 2 [vs e_S_tree_Node x21, .int .i64 x22, .ptr (some (bp0_2, 0)), .int .i64 x23, .bool x24]), .obj bp0_2 (.cells none 2 [rowV r5 x25.length, .int .i64 p0.a_.first_]), .lst r5 108 (lst e_S_auto_state x25)] F) ∨ False) ?_ ?_
      · refine aw_loop (by kernel_rfl) (fun (s : (List S_tree_Node) × Int × Int × Bool × (List S_auto_state) × Int × Int) fr' h' => ∃ (x14 : List S_tree_Node) (x15 : Int) (x16 : Int) (x17 : Bool) (x18 : List S_auto_state) (x19 : Int) (x20 : Int), (x14, x15, x16, x17, x18, x19, x20) = s ∧ ∃ (r4 : Option Nat), Has fr' 80 [(2, .int .i64 p2), (3, .ptr (some (h.size, 0))), (4, .ptr (some (h1.size, 0))), (7, .func (.func 82) [] [.ptr (some (h.size, 0)), .ptr (some (h1.size, 0))]), (8, .func (.func 83) [] [.ptr (some (h.size, 0))]), (9, .int .i64 x19), (11, .int .i64 x20)] ∧ HH g h' [.obj h1.size (.cells none 2 (e_S_tree_Node p1)), .obj h.size (.cells none 2 [.ptr (some (bp0, 0))]), .obj bp0 (.cells none 2 [vs e_S_tree_Node x14, .int .i64 x15, .ptr (some (bp0_2, 0)), .int .i64 x16, .bool x17]), .obj bp0_2 (.cells none 2 [rowV r4 x18.length, .int .i64 p0.a_.first_]), .lst r4 108 (lst e_S_auto_state x18)] F) ho ⟨p0.t_.Nodes, p0.t_.Root, p0.most_, p0.full_, p0.a_.l_, p2, p1.Max, rfl, rp0_2_0, H.less _ (fun fr => by kernel_rfl), A⟩ ?_
        clear ho hm H A
        intro s q fr h6 hI hm
        obtain ⟨x14, x15, x16, x17, x18, x19, x20, rfl, r4, H, A⟩ := hI
        unfold M_auto_maker_repeat_sPPORI_L0 at hm
        refine aw_seq (by kernel_rfl) ?_
        refine aw_seq (by kernel_rfl) ?_
        refine aw_reg (id := 10) (n := 11) [(0, []), (1, []), (2, []), (3, []), (4, []), (5, []), (6, []), (7, []), (8, []), (9, []), (10, [])] (by kernel_rfl) (by kernel_rfl) ?_
        refine at_seg [(0, []), (1, [])] [(2, .int .i64 p2), (3, .ptr (some (h.size, 0))), (4, .ptr (some (h1.size, 0))), (7, .func (.func 82) [] [.ptr (some (h.size, 0)), .ptr (some (h1.size, 0))]), (8, .func (.func 83) [] [.ptr (some (h.size, 0))]), (9, .int .i64 x19), (11, .int .i64 x20), (44, .int .i64 x20), (45, .ptr (some (h1.size, 3)))] H (noU_all rfl) (fun fr => by kernel_rfl) ?_
        intro fr H
        refine at_step (v := .int .i64 p1.Min) (h1 := h6) [(2, .int .i64 p2), (3, .ptr (some (h.size, 0))), (4, .ptr (some (h1.size, 0))), (7, .func (.func 82) [] [.ptr (some (h.size, 0)), .ptr (some (h1.size, 0))]), (8, .func (.func 83) [] [.ptr (some (h.size, 0))]), (9, .int .i64 x19), (11, .int .i64 x20), (44, .int .i64 x20), (46, .int .i64 p1.Min)] H (fun fr => by kernel_rfl) (fun fr => .of (s_ld (by kernel_rfl) (A.ld1 0 rfl (o := 3) rfl))) ?_
        intro fr t H
        refine at_seg [(3, []), (4, [])] [(2, .int .i64 p2), (3, .ptr (some (h.size, 0))), (4, .ptr (some (h1.size, 0))), (7, .func (.func 82) [] [.ptr (some (h.size, 0)), .ptr (some (h1.size, 0))]), (8, .func (.func 83) [] [.ptr (some (h.size, 0))]), (9, .int .i64 x19), (11, .int .i64 x20), (48, .bool (decide (x20 > p1.Min)))] H (noU_all rfl) (fun fr => by kernel_rfl) ?_
        intro fr H
        refine at_cut [(5, []), (6, []), (7, []), (8, []), (9, []), (10, [])] (fun fr' h' => h6 = h' ∧ Has fr' 80 [(2, .int .i64 p2), (3, .ptr (some (h.size, 0))), (4, .ptr (some (h1.size, 0))), (7, .func (.func 82) [] [.ptr (some (h.size, 0)), .ptr (some (h1.size, 0))]), (8, .func (.func 83) [] [.ptr (some (h.size, 0))]), (9, .int .i64 x19), (11, .int .i64 x20), (54, .bool ((decide (x20 > p1.Min)) && (!x17)))]) ?_ ?_
        · cases hb : (decide (x20 > p1.Min) : Bool) with
          | true =>
            replace H := H.know 48 hb (by kernel_rfl)
            refine at_step (v := .ptr (some (bp0, 0))) (h1 := h6) [(2, .int .i64 p2), (3, .ptr (some (h.size, 0))), (4, .ptr (some (h1.size, 0))), (7, .func (.func 82) [] [.ptr (some (h.size, 0)), .ptr (some (h1.size, 0))]), (8, .func (.func 83) [] [.ptr (some (h.size, 0))]), (9, .int .i64 x19), (11, .int .i64 x20), (48, .bool true), (49, .ptr (some (bp0, 0)))] H (fun fr => by kernel_rfl) (fun fr => .of (s_ld (by kernel_rfl) (A.ld1 1 rfl (o := 0) rfl))) ?_
            intro fr t H
            refine at_seg [(6, []), (7, [])] [(2, .int .i64 p2), (3, .ptr (some (h.size, 0))), (4, .ptr (some (h1.size, 0))), (7, .func (.func 82) [] [.ptr (some (h.size, 0)), .ptr (some (h1.size, 0))]), (8, .func (.func 83) [] [.ptr (some (h.size, 0))]), (9, .int .i64 x19), (11, .int .i64 x20), (48, .bool true), (51, .ptr (some (bp0, 4)))] H (noU_all rfl) (fun fr => by kernel_rfl) ?_
            intro fr H
            refine at_step (v := .bool x17) (h1 := h6) [(2, .int .i64 p2), (3, .ptr (some (h.size, 0))), (4, .ptr (some (h1.size, 0))), (7, .func (.func 82) [] [.ptr (some (h.size, 0)), .ptr (some (h1.size, 0))]), (8, .func (.func 83) [] [.ptr (some (h.size, 0))]), (9, .int .i64 x19), (11, .int .i64 x20), (48, .bool true), (52, .bool x17)] H (fun fr => by kernel_rfl) (fun fr => .of (s_ld (by kernel_rfl) (A.ld1 2 rfl (o := 4) rfl))) ?_
            intro fr t H
            refine at_seg [(9, []), (10, [])] [(2, .int .i64 p2), (3, .ptr (some (h.size, 0))), (4, .ptr (some (h1.size, 0))), (7, .func (.func 82) [] [.ptr (some (h.size, 0)), .ptr (some (h1.size, 0))]), (8, .func (.func 83) [] [.ptr (some (h.size, 0))]), (9, .int .i64 x19), (11, .int .i64 x20), (54, .bool (!x17))] H (noU_all rfl) (fun fr => by kernel_rfl) ?_
            intro fr H
            exact at_nil ⟨rfl, by first | exact H.less _ (fun fr => by rfl) | exact H.less _ (fun fr => by rw [hb]; rfl)⟩
          | false =>
            replace H := H.know 48 hb (by kernel_rfl)
            refine at_seg [(5, []), (6, []), (7, []), (8, []), (9, []), (10, [])] [(2, .int .i64 p2), (3, .ptr (some (h.size, 0))), (4, .ptr (some (h1.size, 0))), (7, .func (.func 82) [] [.ptr (some (h.size, 0)), .ptr (some (h1.size, 0))]), (8, .func (.func 83) [] [.ptr (some (h.size, 0))]), (9, .int .i64 x19), (11, .int .i64 x20), (54, .bool false)] H (noU_all rfl) (fun fr => by kernel_rfl) ?_
            intro fr H
            exact at_nil ⟨rfl, by first | exact H.less _ (fun fr => by rfl) | exact H.less _ (fun fr => by rw [hb]; rfl)⟩
        · intro t fr h' hK
          obtain ⟨e, H⟩ := hK
          subst e
          refine at_nil ?_
          show AW cfg 66 g (right (left (left (left (right (right (right (left (right (right (right (right (bodyC cfg.P 66))))))))))))) fr h6 _
          rcases iteB_some hm with ⟨hb, hm⟩ | ⟨hb, hm⟩
          · replace H := H.know 54 hb (by kernel_rfl)
            refine aw_true (x := .tmp 54) (by kernel_rfl) H (fun fr => by kernel_rfl) ?_
            refine aw_skip (by kernel_rfl) ?_
            show AW cfg 66 g (right (left (left (right (right (right (left (right (right (right (right (bodyC cfg.P 66)))))))))))) fr h6 _
            refine aw_seq (by kernel_rfl) ?_
            refine aw_block (id := 1) (by kernel_rfl) ?_
            refine aw_reg (id := 12) (n := 7) [(0, []), (1, []), (2, []), (3, []), (4, []), (5, []), (6, [])] (by kernel_rfl) (by kernel_rfl) ?_
            refine at_seg [(0, []), (1, []), (2, [])] [(2, .int .i64 p2), (3, .ptr (some (h.size, 0))), (4, .ptr (some (h1.size, 0))), (7, .func (.func 82) [] [.ptr (some (h.size, 0)), .ptr (some (h1.size, 0))]), (8, .func (.func 83) [] [.ptr (some (h.size, 0))]), (11, .int .i64 x20), (57, .func (.func 83) [] [.ptr (some (h.size, 0))]), (58, .func (.func 82) [] [.ptr (some (h.size, 0)), .ptr (some (h1.size, 0))]), (59, .int .i64 x19)] H (noU_all rfl) (fun fr => by kernel_rfl) ?_
            intro fr H
            replace A : HH g h6 [.obj h.size (.cells none 2 [.ptr (some (bp0, 0))]), .obj bp0 (.cells none 2 [vs e_S_tree_Node x14, .int .i64 x15, .ptr (some (bp0_2, 0)), .int .i64 x16, .bool x17]), .obj bp0_2 (.cells none 2 [rowV r4 x18.length, .int .i64 p0.a_.first_]), .lst r4 108 (lst e_S_auto_state x18), .obj h1.size (.cells none 2 (e_S_tree_Node p1))] F := (((((A.front 0 rfl).front 4 rfl).front 4 rfl).front 4 rfl).front 4 rfl)
            have A1 := A.cut 5
            obtain ⟨⟨x27, x28, x29⟩, hx, hm⟩ := bind_some hm
            obtain ⟨v1, h7, hr, r6, rfl, A1⟩ := hS.ok_auto_maker_repeat_1_sIPPPOP (av := [.int .i64 x19, .ptr (some (h.size, 0)), .ptr (some (h1.size, 0))]) hx (by kernel_rfl) A1
            replace A : HH g h7 [.obj h.size (.cells none 2 [.ptr (some (bp0, 0))]), .obj bp0 (.cells none 2 [vs e_S_tree_Node x28.t_.Nodes, .int .i64 x28.t_.Root, .ptr (some (bp0_2, 0)), .int .i64 x28.most_, .bool x28.full_]), .obj bp0_2 (.cells none 2 [rowV r6 x29.length, .int .i64 p0.a_.first_]), .lst r6 108 (lst e_S_auto_state x29), .obj h1.size (.cells none 2 (e_S_tree_Node p1))] F := A.glue0 (n := 5) A1
            refine at_step (v := .int .i64 x27) (h1 := h7) [(2, .int .i64 p2), (3, .ptr (some (h.size, 0))), (4, .ptr (some (h1.size, 0))), (7, .func (.func 82) [] [.ptr (some (h.size, 0)), .ptr (some (h1.size, 0))]), (8, .func (.func 83) [] [.ptr (some (h.size, 0))]), (11, .int .i64 x20), (57, .func (.func 83) [] [.ptr (some (h.size, 0))]), (60, .int .i64 x27)] H (fun fr => by kernel_rfl) (fun fr => Steps.call (by kernel_rfl) hr) ?_
            intro fr t H
            refine at_seg [(4, [])] [(2, .int .i64 p2), (3, .ptr (some (h.size, 0))), (4, .ptr (some (h1.size, 0))), (7, .func (.func 82) [] [.ptr (some (h.size, 0)), .ptr (some (h1.size, 0))]), (8, .func (.func 83) [] [.ptr (some (h.size, 0))]), (11, .int .i64 x20), (57, .func (.func 83) [] [.ptr (some (h.size, 0))]), (60, .int .i64 x27), (61, .int .i64 p2)] H (noU_all rfl) (fun fr => by kernel_rfl) ?_
            intro fr H
            have A1 := A.cut 4
            obtain ⟨⟨x30, x31, x32⟩, hx, hm⟩ := bind_some hm
            obtain ⟨v1, h8, hr, r7, rfl, A1⟩ := ok_auto_maker_repeat_2_sIIPPPO (av := [.int .i64 x27, .int .i64 p2, .ptr (some (h.size, 0))]) hx (by kernel_rfl) A1
            replace A : HH g h8 [.obj h.size (.cells none 2 [.ptr (some (bp0, 0))]), .obj bp0 (.cells none 2 [vs e_S_tree_Node x31.t_.Nodes, .int .i64 x31.t_.Root, .ptr (some (bp0_2, 0)), .int .i64 x31.most_, .bool x31.full_]), .obj bp0_2 (.cells none 2 [rowV r7 x32.length, .int .i64 p0.a_.first_]), .lst r7 108 (lst e_S_auto_state x32), .obj h1.size (.cells none 2 (e_S_tree_Node p1))] F := A.glue0 (n := 4) A1
            refine at_step (v := .int .i64 x30) (h1 := h8) [(2, .int .i64 p2), (3, .ptr (some (h.size, 0))), (4, .ptr (some (h1.size, 0))), (7, .func (.func 82) [] [.ptr (some (h.size, 0)), .ptr (some (h1.size, 0))]), (8, .func (.func 83) [] [.ptr (some (h.size, 0))]), (11, .int .i64 x20), (62, .int .i64 x30)] H (fun fr => by kernel_rfl) (fun fr => Steps.call (by kernel_rfl) hr) ?_
            intro fr t H
            refine at_seg [(6, [])] [(2, .int .i64 p2), (3, .ptr (some (h.size, 0))), (4, .ptr (some (h1.size, 0))), (7, .func (.func 82) [] [.ptr (some (h.size, 0)), .ptr (some (h1.size, 0))]), (8, .func (.func 83) [] [.ptr (some (h.size, 0))]), (9, .int .i64 x30), (11, .int .i64 x20)] H (noU_all rfl) (fun fr => by kernel_rfl) ?_
            intro fr H
            refine at_nil ?_
            show AW cfg 66 g (right (right (left (left (right (right (right (left (right (right (right (right (bodyC cfg.P 66))))))))))))) fr h8 _
            refine aw_reg (id := 11) (n := 3) [(0, []), (1, []), (2, [])] (by kernel_rfl) (by kernel_rfl) ?_
            refine at_seg [(0, []), (1, []), (2, [])] [(2, .int .i64 p2), (3, .ptr (some (h.size, 0))), (4, .ptr (some (h1.size, 0))), (7, .func (.func 82) [] [.ptr (some (h.size, 0)), .ptr (some (h1.size, 0))]), (8, .func (.func 83) [] [.ptr (some (h.size, 0))]), (9, .int .i64 x30), (11, .int .i64 (IntKind.i64.wrap (x20 - (1 : Int))))] H (noU_all rfl) (fun fr => by kernel_rfl) ?_
            intro fr H
            refine at_nil ?_
            replace A : HH g h8 [.obj h1.size (.cells none 2 (e_S_tree_Node p1)), .obj h.size (.cells none 2 [.ptr (some (bp0, 0))]), .obj bp0 (.cells none 2 [vs e_S_tree_Node x31.t_.Nodes, .int .i64 x31.t_.Root, .ptr (some (bp0_2, 0)), .int .i64 x31.most_, .bool x31.full_]), .obj bp0_2 (.cells none 2 [rowV r7 x32.length, .int .i64 p0.a_.first_]), .lst r7 108 (lst e_S_auto_state x32)] F := (((((A.front 3 rfl).front 3 rfl).front 3 rfl).front 3 rfl).front 4 rfl)
            exact Exists.intro (x31.t_.Nodes, x31.t_.Root, x31.most_, x31.full_, x32, x30, IntKind.i64.wrap (x20 - (1 : Int))) (And.intro (Option.some.inj hm).symm ⟨x31.t_.Nodes, x31.t_.Root, x31.most_, x31.full_, x32, x30, IntKind.i64.wrap (x20 - (1 : Int)), rfl, r7, H.less _ (fun fr => by kernel_rfl), A⟩)
          · replace H := H.know 54 hb (by kernel_rfl)
            refine aw_false (x := .tmp 54) (by kernel_rfl) H (fun fr => by kernel_rfl) ?_
            refine aw_exit (i := 0) (by kernel_rfl) ?_
            exact Exists.intro _ (And.intro (Option.some.inj hm).symm (fun e => Or.inl ⟨x14, x15, x16, x17, x18, x19, rfl, e, r4, H.less _ (fun fr => by kernel_rfl), A⟩))
      · clear ho
        clear A
        intro e fr h9 hQ
        rcases hQ with ⟨x21, x22, x23, x24, x25, x26, rfl, rfl, r5, H, A⟩ | hF
        · skip
          exact Or.inl ⟨x21, x22, x23, x24, x25, x26, rfl, Option.some.inj hm, r5, H.less _ (fun fr => by kernel_rfl), A⟩
        · exact hF.elim
  · clear ho
    clear A
    intro e fr h10 hQ
    rcases hQ with ⟨x1, x2, x3, x4, x5, x6, rfl, rfl, r1, H, A⟩ | hF
    · skip
      show AW cfg 66 g (right (right (right (right (right (bodyC cfg.P 66)))))) fr h10 _
      refine aw_seq (by kernel_rfl) ?_
      refine aw_seq (by kernel_rfl) ?_
      refine aw_reg (id := 13) (n := 1) [(0, [])] (by kernel_rfl) (by kernel_rfl) ?_
      refine at_seg [(0, [])] [(3, .ptr (some (h.size, 0))), (4, .ptr (some (h1.size, 0))), (7, .func (.func 82) [] [.ptr (some (h.size, 0)), .ptr (some (h1.size, 0))]), (9, .int .i64 x6), (12, .int .i64 (0 : Int))] H (noU_all rfl) (fun fr => by kernel_rfl) ?_
      intro fr H
      refine at_nil ?_
      show AW cfg 66 g (right (left (right (right (right (right (right (bodyC cfg.P 66)))))))) fr h10 _
      refine aw_block (id := 2) (by kernel_rfl) ?_
      obtain ⟨o3, ho, hm⟩ := bind_some hm
      refine aw_mono (Q' := fun e fr' h' => (∃ (x40 : List S_tree_Node) (x41 : Int) (x42 : Int) (x43 : Bool) (x44 : List S_auto_state) (x45 : Int), e = .exit 2 ∧ (x40, x41, x42, x43, x44, x45) = o3 ∧ ∃ (r9 : Option Nat), Has fr' 80 [(9, .int .i64 x45)] ∧ HH g h' [.obj h1.size (.cells none 2 (e_S_tree_Node p1)), .obj h.size (.cells none 2 [.ptr (some (bp0, 0))]), .obj bp0 (.cells none 2 [vs e_S_tree_Node x40, .int .i64 x41, .ptr (some (bp0_2, 0)), .int .i64 x42, .bool x43]), .obj bp0_2 (.cells none 2 [rowV r9 x44.length, .int .i64 p0.a_.first_]), .lst r9 108 (lst e_S_auto_state x44)] F) ∨ False) ?_ ?_
      · refine aw_loop (by kernel_rfl) (fun (s : (List S_tree_Node) × Int × Int × Bool × (List S_auto_state) × Int × Int) fr' h' => ∃ (x33 : List S_tree_Node) (x34 : Int) (x35 : Int) (x36 : Bool) (x37 : List S_auto_state) (x38 : Int) (x39 : Int), (x33, x34, x35, x36, x37, x38, x39) = s ∧ ∃ (r8 : Option Nat), Has fr' 80 [(3, .ptr (some (h.size, 0))), (4, .ptr (some (h1.size, 0))), (7, .func (.func 82) [] [.ptr (some (h.size, 0)), .ptr (some (h1.size, 0))]), (9, .int .i64 x38), (12, .int .i64 x39)] ∧ HH g h' [.obj h1.size (.cells none 2 (e_S_tree_Node p1)), .obj h.size (.cells none 2 [.ptr (some (bp0, 0))]), .obj bp0 (.cells none 2 [vs e_S_tree_Node x33, .int .i64 x34, .ptr (some (bp0_2, 0)), .int .i64 x35, .bool x36]), .obj bp0_2 (.cells none 2 [rowV r8 x37.length, .int .i64 p0.a_.first_]), .lst r8 108 (lst e_S_auto_state x37)] F) ho ⟨x1, x2, x3, x4, x5, x6, (0 : Int), rfl, r1, H.less _ (fun fr => by kernel_rfl), A⟩ ?_
        clear ho hm H A
        intro s q fr h11 hI hm
        obtain ⟨x33, x34, x35, x36, x37, x38, x39, rfl, r8, H, A⟩ := hI
        unfold M_auto_maker_repeat_sPPORI_L1 at hm
        refine aw_seq (by kernel_rfl) ?_
        refine aw_seq (by kernel_rfl) ?_
        refine aw_reg (id := 14) (n := 11) [(0, []), (1, []), (2, []), (3, []), (4, []), (5, []), (6, []), (7, []), (8, []), (9, []), (10, [])] (by kernel_rfl) (by kernel_rfl) ?_
        refine at_seg [(0, []), (1, [])] [(3, .ptr (some (h.size, 0))), (4, .ptr (some (h1.size, 0))), (7, .func (.func 82) [] [.ptr (some (h.size, 0)), .ptr (some (h1.size, 0))]), (9, .int .i64 x38), (12, .int .i64 x39), (63, .int .i64 x39), (64, .ptr (some (h1.size, 3)))] H (noU_all rfl) (fun fr => by kernel_rfl) ?_
        intro fr H
        refine at_step (v := .int .i64 p1.Min) (h1 := h11) [(3, .ptr (some (h.size, 0))), (4, .ptr (some (h1.size, 0))), (7, .func (.func 82) [] [.ptr (some (h.size, 0)), .ptr (some (h1.size, 0))]), (9, .int .i64 x38), (12, .int .i64 x39), (63, .int .i64 x39), (65, .int .i64 p1.Min)] H (fun fr => by kernel_rfl) (fun fr => .of (s_ld (by kernel_rfl) (A.ld1 0 rfl (o := 3) rfl))) ?_
        intro fr t H
        refine at_seg [(3, []), (4, [])] [(3, .ptr (some (h.size, 0))), (4, .ptr (some (h1.size, 0))), (7, .func (.func 82) [] [.ptr (some (h.size, 0)), .ptr (some (h1.size, 0))]), (9, .int .i64 x38), (12, .int .i64 x39), (67, .bool (decide (x39 < p1.Min)))] H (noU_all rfl) (fun fr => by kernel_rfl) ?_
        intro fr H
        refine at_cut [(5, []), (6, []), (7, []), (8, []), (9, []), (10, [])] (fun fr' h' => h11 = h' ∧ Has fr' 80 [(3, .ptr (some (h.size, 0))), (4, .ptr (some (h1.size, 0))), (7, .func (.func 82) [] [.ptr (some (h.size, 0)), .ptr (some (h1.size, 0))]), (9, .int .i64 x38), (12, .int .i64 x39), (73, .bool ((decide (x39 < p1.Min)) && (!x36)))]) ?_ ?_
        · cases hb : (decide (x39 < p1.Min) : Bool) with
          | true =>
            replace H := H.know 67 hb (by kernel_rfl)
            refine at_step (v := .ptr (some (bp0, 0))) (h1 := h11) [(3, .ptr (some (h.size, 0))), (4, .ptr (some (h1.size, 0))), (7, .func (.func 82) [] [.ptr (some (h.size, 0)), .ptr (some (h1.size, 0))]), (9, .int .i64 x38), (12, .int .i64 x39), (67, .bool true), (68, .ptr (some (bp0, 0)))] H (fun fr => by kernel_rfl) (fun fr => .of (s_ld (by kernel_rfl) (A.ld1 1 rfl (o := 0) rfl))) ?_
            intro fr t H
            refine at_seg [(6, []), (7, [])] [(3, .ptr (some (h.size, 0))), (4, .ptr (some (h1.size, 0))), (7, .func (.func 82) [] [.ptr (some (h.size, 0)), .ptr (some (h1.size, 0))]), (9, .int .i64 x38), (12, .int .i64 x39), (67, .bool true), (70, .ptr (some (bp0, 4)))] H (noU_all rfl) (fun fr => by kernel_rfl) ?_
            intro fr H
            refine at_step (v := .bool x36) (h1 := h11) [(3, .ptr (some (h.size, 0))), (4, .ptr (some (h1.size, 0))), (7, .func (.func 82) [] [.ptr (some (h.size, 0)), .ptr (some (h1.size, 0))]), (9, .int .i64 x38), (12, .int .i64 x39), (67, .bool true), (71, .bool x36)] H (fun fr => by kernel_rfl) (fun fr => .of (s_ld (by kernel_rfl) (A.ld1 2 rfl (o := 4) rfl))) ?_
            intro fr t H
            refine at_seg [(9, []), (10, [])] [(3, .ptr (some (h.size, 0))), (4, .ptr (some (h1.size, 0))), (7, .func (.func 82) [] [.ptr (some (h.size, 0)), .ptr (some (h1.size, 0))]), (9, .int .i64 x38), (12, .int .i64 x39), (73, .bool (!x36))] H (noU_all rfl) (fun fr => by kernel_rfl) ?_
            intro fr H
            exact at_nil ⟨rfl, by first | exact H.less _ (fun fr => by rfl) | exact H.less _ (fun fr => by rw [hb]; rfl)⟩
          | false =>
            replace H := H.know 67 hb (by kernel_rfl)
            refine at_seg [(5, []), (6, []), (7, []), (8, []), (9, []), (10, [])] [(3, .ptr (some (h.size, 0))), (4, .ptr (some (h1.size, 0))), (7, .func (.func 82) [] [.ptr (some (h.size, 0)), .ptr (some (h1.size, 0))]), (9, .int .i64 x38), (12, .int .i64 x39), (73, .bool false)] H (noU_all rfl) (fun fr => by kernel_rfl) ?_
            intro fr H
            exact at_nil ⟨rfl, by first | exact H.less _ (fun fr => by rfl) | exact H.less _ (fun fr => by rw [hb]; rfl)⟩
        · intro t fr h' hK
          obtain ⟨e, H⟩ := hK
          subst e
          refine at_nil ?_
          show AW cfg 66 g (right (left (left (left (right (left (right (right (right (right (right (bodyC cfg.P 66)))))))))))) fr h11 _
          rcases iteB_some hm with ⟨hb, hm⟩ | ⟨hb, hm⟩
          · replace H := H.know 73 hb (by kernel_rfl)
            refine aw_true (x := .tmp 73) (by kernel_rfl) H (fun fr => by kernel_rfl) ?_
            refine aw_skip (by kernel_rfl) ?_
            show AW cfg 66 g (right (left (left (right (left (right (right (right (right (right (bodyC cfg.P 66))))))))))) fr h11 _
            refine aw_seq (by kernel_rfl) ?_
            refine aw_block (id := 3) (by kernel_rfl) ?_
            refine aw_reg (id := 16) (n := 4) [(0, []), (1, []), (2, []), (3, [])] (by kernel_rfl) (by kernel_rfl) ?_
            refine at_seg [(0, []), (1, [])] [(3, .ptr (some (h.size, 0))), (4, .ptr (some (h1.size, 0))), (7, .func (.func 82) [] [.ptr (some (h.size, 0)), .ptr (some (h1.size, 0))]), (12, .int .i64 x39), (76, .func (.func 82) [] [.ptr (some (h.size, 0)), .ptr (some (h1.size, 0))]), (77, .int .i64 x38)] H (noU_all rfl) (fun fr => by kernel_rfl) ?_
            intro fr H
            replace A : HH g h11 [.obj h.size (.cells none 2 [.ptr (some (bp0, 0))]), .obj bp0 (.cells none 2 [vs e_S_tree_Node x33, .int .i64 x34, .ptr (some (bp0_2, 0)), .int .i64 x35, .bool x36]), .obj bp0_2 (.cells none 2 [rowV r8 x37.length, .int .i64 p0.a_.first_]), .lst r8 108 (lst e_S_auto_state x37), .obj h1.size (.cells none 2 (e_S_tree_Node p1))] F := (((((A.front 0 rfl).front 4 rfl).front 4 rfl).front 4 rfl).front 4 rfl)
            have A1 := A.cut 5
            obtain ⟨⟨x46, x47, x48⟩, hx, hm⟩ := bind_some hm
            obtain ⟨v1, h12, hr, r10, rfl, A1⟩ := hS.ok_auto_maker_repeat_1_sIPPPOP (av := [.int .i64 x38, .ptr (some (h.size, 0)), .ptr (some (h1.size, 0))]) hx (by kernel_rfl) A1
            replace A : HH g h12 [.obj h.size (.cells none 2 [.ptr (some (bp0, 0))]), .obj bp0 (.cells none 2 [vs e_S_tree_Node x47.t_.Nodes, .int .i64 x47.t_.Root, .ptr (some (bp0_2, 0)), .int .i64 x47.most_, .bool x47.full_]), .obj bp0_2 (.cells none 2 [rowV r10 x48.length, .int .i64 p0.a_.first_]), .lst r10 108 (lst e_S_auto_state x48), .obj h1.size (.cells none 2 (e_S_tree_Node p1))] F := A.glue0 (n := 5) A1
            refine at_step (v := .int .i64 x46) (h1 := h12) [(3, .ptr (some (h.size, 0))), (4, .ptr (some (h1.size, 0))), (7, .func (.func 82) [] [.ptr (some (h.size, 0)), .ptr (some (h1.size, 0))]), (12, .int .i64 x39), (78, .int .i64 x46)] H (fun fr => by kernel_rfl) (fun fr => Steps.call (by kernel_rfl) hr) ?_
            intro fr t H
            refine at_seg [(3, [])] [(3, .ptr (some (h.size, 0))), (4, .ptr (some (h1.size, 0))), (7, .func (.func 82) [] [.ptr (some (h.size, 0)), .ptr (some (h1.size, 0))]), (9, .int .i64 x46), (12, .int .i64 x39)] H (noU_all rfl) (fun fr => by kernel_rfl) ?_
            intro fr H
            refine at_nil ?_
            show AW cfg 66 g (right (right (left (left (right (left (right (right (right (right (right (bodyC cfg.P 66)))))))))))) fr h12 _
            refine aw_reg (id := 15) (n := 3) [(0, []), (1, []), (2, [])] (by kernel_rfl) (by kernel_rfl) ?_
            refine at_seg [(0, []), (1, []), (2, [])] [(3, .ptr (some (h.size, 0))), (4, .ptr (some (h1.size, 0))), (7, .func (.func 82) [] [.ptr (some (h.size, 0)), .ptr (some (h1.size, 0))]), (9, .int .i64 x46), (12, .int .i64 (IntKind.i64.wrap (x39 + (1 : Int))))] H (noU_all rfl) (fun fr => by kernel_rfl) ?_
            intro fr H
            refine at_nil ?_
            replace A : HH g h12 [.obj h1.size (.cells none 2 (e_S_tree_Node p1)), .obj h.size (.cells none 2 [.ptr (some (bp0, 0))]), .obj bp0 (.cells none 2 [vs e_S_tree_Node x47.t_.Nodes, .int .i64 x47.t_.Root, .ptr (some (bp0_2, 0)), .int .i64 x47.most_, .bool x47.full_]), .obj bp0_2 (.cells none 2 [rowV r10 x48.length, .int .i64 p0.a_.first_]), .lst r10 108 (lst e_S_auto_state x48)] F := (((((A.front 3 rfl).front 3 rfl).front 3 rfl).front 3 rfl).front 4 rfl)
            exact Exists.intro (x47.t_.Nodes, x47.t_.Root, x47.most_, x47.full_, x48, x46, IntKind.i64.wrap (x39 + (1 : Int))) (And.intro (Option.some.inj hm).symm ⟨x47.t_.Nodes, x47.t_.Root, x47.most_, x47.full_, x48, x46, IntKind.i64.wrap (x39 + (1 : Int)), rfl, r10, H.less _ (fun fr => by kernel_rfl), A⟩)
          · replace H := H.know 73 hb (by kernel_rfl)
            refine aw_false (x := .tmp 73) (by kernel_rfl) H (fun fr => by kernel_rfl) ?_
            refine aw_exit (i := 2) (by kernel_rfl) ?_
            exact Exists.intro _ (And.intro (Option.some.inj hm).symm (fun e => Or.inl ⟨x33, x34, x35, x36, x37, x38, rfl, e, r8, H.less _ (fun fr => by kernel_rfl), A⟩))
      · clear ho
        clear A
        intro e fr h13 hQ
        rcases hQ with ⟨x40, x41, x42, x43, x44, x45, rfl, rfl, r9, H, A⟩ | hF
        · skip
          show AW cfg 66 g (right (right (right (right (right (right (bodyC cfg.P 66))))))) fr h13 _
          refine aw_seq (by kernel_rfl) ?_
          refine aw_reg (id := 17) (n := 2) [(0, []), (1, [])] (by kernel_rfl) (by kernel_rfl) ?_
          refine at_seg [(0, []), (1, [])] [(6, .int .i64 x45)] H (noU_all rfl) (fun fr => by kernel_rfl) ?_
          intro fr H
          refine at_nil ?_
          show AW cfg 66 g (right (right (right (right (right (right (right (bodyC cfg.P 66)))))))) fr h13 _
          refine aw_ret (by kernel_rfl) ?_
          have e0 := Option.some.inj hm
          obtain ⟨y0, z0⟩ := Prod.mk.inj e0
          obtain ⟨y1, z1⟩ := Prod.mk.inj z0
          subst y0
          subst y1
          subst z1
          refine ⟨.inl rfl, .int .i64 x45, resH H (fun fr => by kernel_rfl), ?_⟩
          replace A : HH g h13 [.obj bp0 (.cells none 2 [vs e_S_tree_Node x40, .int .i64 x41, .ptr (some (bp0_2, 0)), .int .i64 x42, .bool x43]), .obj bp0_2 (.cells none 2 [rowV r9 x44.length, .int .i64 p0.a_.first_]), .lst r9 108 (lst e_S_auto_state x44)] F := (HH.dropF (((A.front 4 rfl).front 4 rfl).front 4 rfl) 3)
          exact ⟨r9, rfl, A⟩
        · exact hF.elim
    · exact hF.elim
noncomputable def rSC_auto_maker_repeat_1_sIPPPOP : Nat → SC_auto_maker_repeat_1_sIPPPOP
  | 0 => ⟨fun _ _ _ => none, fun _ _ _ => none, fun _ _ _ => none⟩
  | n + 1 => ⟨B_auto_maker_repeat_1_sIPPPOP (rSC_auto_maker_repeat_1_sIPPPOP n), B_auto_maker_node_sPPOII (rSC_auto_maker_repeat_1_sIPPPOP n), B_auto_maker_repeat_sPPORI (rSC_auto_maker_repeat_1_sIPPPOP n)⟩
theorem okrSC_auto_maker_repeat_1_sIPPPOP : ∀ n, OkSC_auto_maker_repeat_1_sIPPPOP (rSC_auto_maker_repeat_1_sIPPPOP n)
  | 0 => ⟨fun hm => (by cases hm), fun hm => (by cases hm), fun hm => (by cases hm)⟩
  | n + 1 => ⟨fun hm hc A => okB_auto_maker_repeat_1_sIPPPOP (okrSC_auto_maker_repeat_1_sIPPPOP n) hm hc A, fun hm hc A => okB_auto_maker_node_sPPOII (okrSC_auto_maker_repeat_1_sIPPPOP n) hm hc A, fun hm hc A => okB_auto_maker_repeat_sPPORI (okrSC_auto_maker_repeat_1_sIPPPOP n) hm hc A⟩
noncomputable def M_auto_maker_repeat_1_sIPPPOP : Int → S_auto_maker → S_tree_Node → Option (Int × S_auto_maker × (List S_auto_state)) := (rSC_auto_maker_repeat_1_sIPPPOP bigF).M_auto_maker_repeat_1_sIPPPOP
theorem ok_auto_maker_repeat_1_sIPPPOP {g : Gd} {h : AHeap} {F : List Ck} {p0 : Int} {p1_0 : S_auto_maker} {p2 : S_tree_Node} {bp1 : Nat} {bp1_0 : Nat} {bp1_0_2 : Nat} {rp1_0_2_0 : Option Nat} {bp2 : Nat} {q0 : Int} {u1 : S_auto_maker} {u3 : List S_auto_state} {av : List AVal} (hm : M_auto_maker_repeat_1_sIPPPOP p0 p1_0 p2 = some (q0, u1, u3)) (hc : canL (cfg.still 82) av = [.int .i64 p0, .ptr (some (bp1, 0)), .ptr (some (bp2, 0))]) (A : HH g h [.obj bp1 (.cells none 2 [.ptr (some (bp1_0, 0))]), .obj bp1_0 (.cells none 2 [vs e_S_tree_Node p1_0.t_.Nodes, .int .i64 p1_0.t_.Root, .ptr (some (bp1_0_2, 0)), .int .i64 p1_0.most_, .bool p1_0.full_]), .obj bp1_0_2 (.cells none 2 [rowV rp1_0_2_0 p1_0.a_.l_.length, .int .i64 p1_0.a_.first_]), .lst rp1_0_2_0 108 (lst e_S_auto_state p1_0.a_.l_), .obj bp2 (.cells none 2 (e_S_tree_Node p2))] F) : ∃ v h', Runs cfg g h 82 av v h' ∧ ∃ (r'3 : Option Nat), v = .int .i64 q0 ∧ HH g h' [.obj bp1 (.cells none 2 [.ptr (some (bp1_0, 0))]), .obj bp1_0 (.cells none 2 [vs e_S_tree_Node u1.t_.Nodes, .int .i64 u1.t_.Root, .ptr (some (bp1_0_2, 0)), .int .i64 u1.most_, .bool u1.full_]), .obj bp1_0_2 (.cells none 2 [rowV r'3 u3.length, .int .i64 p1_0.a_.first_]), .lst r'3 108 (lst e_S_auto_state u3), .obj bp2 (.cells none 2 (e_S_tree_Node p2))] F := (okrSC_auto_maker_repeat_1_sIPPPOP bigF).ok_auto_maker_repeat_1_sIPPPOP hm hc A
noncomputable def M_auto_maker_node_sPPOII : S_auto_maker → Int → Int → Option (Int × S_auto_maker × (List S_auto_state)) := (rSC_auto_maker_repeat_1_sIPPPOP bigF).M_auto_maker_node_sPPOII
theorem ok_auto_maker_node_sPPOII {g : Gd} {h : AHeap} {F : List Ck} {p0 : S_auto_maker} {p1 : Int} {p2 : Int} {bp0 : Nat} {bp0_2 : Nat} {rp0_2_0 : Option Nat} {q0 : Int} {u0 : S_auto_maker} {u2 : List S_auto_state} {av : List AVal} (hm : M_auto_maker_node_sPPOII p0 p1 p2 = some (q0, u0, u2)) (hc : canL (cfg.still 49) av = [.ptr (some (bp0, 0)), .int .i64 p1, .int .i64 p2]) (A : HH g h [.obj bp0 (.cells none 2 [vs e_S_tree_Node p0.t_.Nodes, .int .i64 p0.t_.Root, .ptr (some (bp0_2, 0)), .int .i64 p0.most_, .bool p0.full_]), .obj bp0_2 (.cells none 2 [rowV rp0_2_0 p0.a_.l_.length, .int .i64 p0.a_.first_]), .lst rp0_2_0 108 (lst e_S_auto_state p0.a_.l_)] F) : ∃ v h', Runs cfg g h 49 av v h' ∧ ∃ (r'2 : Option Nat), v = .int .i64 q0 ∧ HH g h' [.obj bp0 (.cells none 2 [vs e_S_tree_Node u0.t_.Nodes, .int .i64 u0.t_.Root, .ptr (some (bp0_2, 0)), .int .i64 u0.most_, .bool u0.full_]), .obj bp0_2 (.cells none 2 [rowV r'2 u2.length, .int .i64 p0.a_.first_]), .lst r'2 108 (lst e_S_auto_state u2)] F := (okrSC_auto_maker_repeat_1_sIPPPOP bigF).ok_auto_maker_node_sPPOII hm hc A
noncomputable def M_auto_maker_repeat_sPPORI : S_auto_maker → S_tree_Node → Int → Option (Int × S_auto_maker × (List S_auto_state)) := (rSC_auto_maker_repeat_1_sIPPPOP bigF).M_auto_maker_repeat_sPPORI
theorem ok_auto_maker_repeat_sPPORI {g : Gd} {h : AHeap} {F : List Ck} {p0 : S_auto_maker} {p1 : S_tree_Node} {p2 : Int} {bp0 : Nat} {bp0_2 : Nat} {rp0_2_0 : Option Nat} {q0 : Int} {u0 : S_auto_maker} {u2 : List S_auto_state} {av : List AVal} (hm : M_auto_maker_repeat_sPPORI p0 p1 p2 = some (q0, u0, u2)) (hc : canL (cfg.still 66) av = [.ptr (some (bp0, 0)), .agg (e_S_tree_Node p1), .int .i64 p2]) (A : HH g h [.obj bp0 (.cells none 2 [vs e_S_tree_Node p0.t_.Nodes, .int .i64 p0.t_.Root, .ptr (some (bp0_2, 0)), .int .i64 p0.most_, .bool p0.full_]), .obj bp0_2 (.cells none 2 [rowV rp0_2_0 p0.a_.l_.length, .int .i64 p0.a_.first_]), .lst rp0_2_0 108 (lst e_S_auto_state p0.a_.l_)] F) : ∃ v h', Runs cfg g h 66 av v h' ∧ ∃ (r'2 : Option Nat), v = .int .i64 q0 ∧ HH g h' [.obj bp0 (.cells none 2 [vs e_S_tree_Node u0.t_.Nodes, .int .i64 u0.t_.Root, .ptr (some (bp0_2, 0)), .int .i64 u0.most_, .bool u0.full_]), .obj bp0_2 (.cells none 2 [rowV r'2 u2.length, .int .i64 p0.a_.first_]), .lst r'2 108 (lst e_S_auto_state u2)] F := (okrSC_auto_maker_repeat_1_sIPPPOP bigF).ok_auto_maker_repeat_sPPORI hm hc A
end Go.Av.L
