/-
 Models of functions, and that the abstract run tells them. Written by lift2.py.
-/
import Derived.Test.YtiodcbipjnmpgaaKCfg
import Derived.Test.YtiodcbipjnmpgaaK1
import Derived.Test.YtiodcbipjnmpgaaK2
namespace Go.Av.L
open Go.Av Go.Lib
set_option maxRecDepth 10000
set_option linter.unusedVariables false
set_option linter.unusedSimpArgs false
variable {g : Gd} {h : AHeap} {F : List Ck} {av : List AVal}
structure SC_auto_maker_repeat_1_sIPPPOP where
 M_auto_maker_repeat_1_sIPPPOP : Int → S_auto_maker → S_tree_Node → Option (Int × S_auto_maker × (List S_auto_state))
 M_auto_maker_node_sPPOII : S_auto_maker → Int → Int → Option (Int × S_auto_maker × (List S_auto_state))
 M_auto_maker_repeat_sPPORI : S_auto_maker → S_tree_Node → Int → Option (Int × S_auto_maker × (List S_auto_state))
structure OkSC_auto_maker_repeat_1_sIPPPOP (S : SC_auto_maker_repeat_1_sIPPPOP) : Prop where
 ok_auto_maker_repeat_1_sIPPPOP : ∀ {g : Gd} {h : AHeap} {F : List Ck} {p0 : Int} {p1_0 : S_auto_maker} {p2 : S_tree_Node} {bp1 : Nat} {bp1_0 : Nat} {bp1_0_2 : Nat} {rp1_0_2_0 : Option Nat} {bp2 : Nat} {q0 : Int} {u1 : S_auto_maker} {u3 : List S_auto_state} {av : List AVal} (hm : S.M_auto_maker_repeat_1_sIPPPOP p0 p1_0 p2 = some (q0, u1, u3)) (hc : canL (cfg.still 82) av = [.int .i64 p0, .ptr (some (bp1, 0)), .ptr (some (bp2, 0))]) (A : HH g h [.obj bp1 (.cells none 2 [.ptr (some (bp1_0, 0))]), .obj bp1_0 (.cells none 2 [vs e_S_tree_Node p1_0.t_.Nodes, .int .i64 p1_0.t_.Root, .ptr (some (bp1_0_2, 0)), .int .i64 p1_0.most_, .bool p1_0.full_]), .obj bp1_0_2 (.cells none 2 [rowV rp1_0_2_0 p1_0.a_.l_.length, .int .i64 p1_0.a_.first_]), .lst rp1_0_2_0 108 (lst e_S_auto_state p1_0.a_.l_), .obj bp2 (.cells none 2 (e_S_tree_Node p2))] F), ∃ v h', Runs cfg g h 82 av v h' ∧ ∃ (r'3 : Option Nat), v = .int .i64 q0 ∧ HH g h' [.obj bp1 (.cells none 2 [.ptr (some (bp1_0, 0))]), .obj bp1_0 (.cells none 2 [vs e_S_tree_Node u1.t_.Nodes, .int .i64 u1.t_.Root, .ptr (some (bp1_0_2, 0)), .int .i64 u1.most_, .bool u1.full_]), .obj bp1_0_2 (.cells none 2 [rowV r'3 u3.length, .int .i64 p1_0.a_.first_]), .lst r'3 108 (lst e_S_auto_state u3), .obj bp2 (.cells none 2 (e_S_tree_Node p2))] F
 ok_auto_maker_node_sPPOII : ∀ {g : Gd} {h : AHeap} {F : List Ck} {p0 : S_auto_maker} {p1 : Int} {p2 : Int} {bp0 : Nat} {bp0_2 : Nat} {rp0_2_0 : Option Nat} {q0 : Int} {u0 : S_auto_maker} {u2 : List S_auto_state} {av : List AVal} (hm : S.M_auto_maker_node_sPPOII p0 p1 p2 = some (q0, u0, u2)) (hc : canL (cfg.still 49) av = [.ptr (some (bp0, 0)), .int .i64 p1, .int .i64 p2]) (A : HH g h [.obj bp0 (.cells none 2 [vs e_S_tree_Node p0.t_.Nodes, .int .i64 p0.t_.Root, .ptr (some (bp0_2, 0)), .int .i64 p0.most_, .bool p0.full_]), .obj bp0_2 (.cells none 2 [rowV rp0_2_0 p0.a_.l_.length, .int .i64 p0.a_.first_]), .lst rp0_2_0 108 (lst e_S_auto_state p0.a_.l_)] F), ∃ v h', Runs cfg g h 49 av v h' ∧ ∃ (r'2 : Option Nat), v = .int .i64 q0 ∧ HH g h' [.obj bp0 (.cells none 2 [vs e_S_tree_Node u0.t_.Nodes, .int .i64 u0.t_.Root, .ptr (some (bp0_2, 0)), .int .i64 u0.most_, .bool u0.full_]), .obj bp0_2 (.cells none 2 [rowV r'2 u2.length, .int .i64 p0.a_.first_]), .lst r'2 108 (lst e_S_auto_state u2)] F
 ok_auto_maker_repeat_sPPORI : ∀ {g : Gd} {h : AHeap} {F : List Ck} {p0 : S_auto_maker} {p1 : S_tree_Node} {p2 : Int} {bp0 : Nat} {bp0_2 : Nat} {rp0_2_0 : Option Nat} {q0 : Int} {u0 : S_auto_maker} {u2 : List S_auto_state} {av : List AVal} (hm : S.M_auto_maker_repeat_sPPORI p0 p1 p2 = some (q0, u0, u2)) (hc : canL (cfg.still 66) av = [.ptr (some (bp0, 0)), .agg (e_S_tree_Node p1), .int .i64 p2]) (A : HH g h [.obj bp0 (.cells none 2 [vs e_S_tree_Node p0.t_.Nodes, .int .i64 p0.t_.Root, .ptr (some (bp0_2, 0)), .int .i64 p0.most_, .bool p0.full_]), .obj bp0_2 (.cells none 2 [rowV rp0_2_0 p0.a_.l_.length, .int .i64 p0.a_.first_]), .lst rp0_2_0 108 (lst e_S_auto_state p0.a_.l_)] F), ∃ v h', Runs cfg g h 66 av v h' ∧ ∃ (r'2 : Option Nat), v = .int .i64 q0 ∧ HH g h' [.obj bp0 (.cells none 2 [vs e_S_tree_Node u0.t_.Nodes, .int .i64 u0.t_.Root, .ptr (some (bp0_2, 0)), .int .i64 u0.most_, .bool u0.full_]), .obj bp0_2 (.cells none 2 [rowV r'2 u2.length, .int .i64 p0.a_.first_]), .lst r'2 108 (lst e_S_auto_state u2)] F
noncomputable def B_auto_maker_repeat_1_sIPPPOP (S : SC_auto_maker_repeat_1_sIPPPOP) (p0 : Int) (p1_0 : S_auto_maker) (p2 : S_tree_Node) : Option (Int × S_auto_maker × (List S_auto_state)) :=
 (S.M_auto_maker_node_sPPOII p1_0 p2.A p0).bind fun (x1, x2, x3) => some (x1, (⟨x2.t_, (⟨x3, p1_0.a_.first_⟩ : S_auto_Auto), x2.most_, x2.full_⟩ : S_auto_maker), x3)
theorem okB_auto_maker_repeat_1_sIPPPOP {S : SC_auto_maker_repeat_1_sIPPPOP} (hS : OkSC_auto_maker_repeat_1_sIPPPOP S) {p0 p1_0 p2 bp1 bp1_0 bp1_0_2 rp1_0_2_0 bp2 q0 u1 u3} (hm : B_auto_maker_repeat_1_sIPPPOP S p0 p1_0 p2 = some (q0, u1, u3)) (hc : canL (cfg.still 82) av = [.int .i64 p0, .ptr (some (bp1, 0)), .ptr (some (bp2, 0))]) (A : HH g h [.obj bp1 (.cells none 2 [.ptr (some (bp1_0, 0))]), .obj bp1_0 (.cells none 2 [vs e_S_tree_Node p1_0.t_.Nodes, .int .i64 p1_0.t_.Root, .ptr (some (bp1_0_2, 0)), .int .i64 p1_0.most_, .bool p1_0.full_]), .obj bp1_0_2 (.cells none 2 [rowV rp1_0_2_0 p1_0.a_.l_.length, .int .i64 p1_0.a_.first_]), .lst rp1_0_2_0 108 (lst e_S_auto_state p1_0.a_.l_), .obj bp2 (.cells none 2 (e_S_tree_Node p2))] F) : ∃ v h', Runs cfg g h 82 av v h' ∧ ∃ (r'3 : Option Nat), v = .int .i64 q0 ∧ HH g h' [.obj bp1 (.cells none 2 [.ptr (some (bp1_0, 0))]), .obj bp1_0 (.cells none 2 [vs e_S_tree_Node u1.t_.Nodes, .int .i64 u1.t_.Root, .ptr (some (bp1_0_2, 0)), .int .i64 u1.most_, .bool u1.full_]), .obj bp1_0_2 (.cells none 2 [rowV r'3 u3.length, .int .i64 p1_0.a_.first_]), .lst r'3 108 (lst e_S_auto_state u3), .obj bp2 (.cells none 2 (e_S_tree_Node p2))] F := by
 refine rq1 10 [.tmp 4] hc ?_
 clear hc
 unfold B_auto_maker_repeat_1_sIPPPOP at hm
 refine bg 10 [(0, .int .i64 p0), (1, .ptr (some (bp1, 0))), (2, .ptr (some (bp2, 0)))] fun fr H => ?_
 refine aw_sr 1 ?_
 refine at_es 1 [] 6 H (fun _ => id) fun fr H => ?_
 refine at_ll 5 0 0 A H fun fr t H => ?_
 refine at_gl 1 [] 7 4 1 A H fun fr t H => ?_
 replace A := A.k5 1 2 3 0 4
 have A1 := A.cut 3
 obtain ⟨⟨x1, x2, x3⟩, hx, hm⟩ := bind_some hm
 obtain ⟨v1, h1, hr, r1, rfl, A1⟩ := hS.ok_auto_maker_node_sPPOII (av := [.ptr (some (bp1_0, 0)), .int .i64 p2.A, .int .i64 p0]) hx (by kernel_rfl) A1
 replace A := A.g33 A1
 refine at_gc1 1 [] 9 hr H fun fr t H => ?_
 refine at_el 1 [(4, .int .i64 x1)] H (fun _ => id) fun fr H => ?_
 refine aw_rt ?_
 obtain ⟨rfl, rfl, rfl⟩ := injC hm
 refine ⟨.inl rfl, .int .i64 x1, rH H, ?_⟩
 replace A := A.k5 3 0 1 2 4
 exact ⟨r1, rfl, A⟩
noncomputable def B_auto_maker_node_sPPOII (S : SC_auto_maker_repeat_1_sIPPPOP) (p0 : S_auto_maker) (p1 : Int) (p2 : Int) : Option (Int × S_auto_maker × (List S_auto_state)) :=
 iteB p0.full_ (some ((0 : Int), p0, p0.a_.l_)) (((ixV p0.t_.Nodes p1).bind fun x7 => iteB (x7.Kind == (1 : Int)) ((M_auto_maker_lay_sPPOR p0 (⟨(1 : Int), p2, (0 : Int), x7.Set⟩ : S_auto_state)).bind fun (x8, x9, x10) => some (.inr (x9.t_.Nodes, x9.t_.Root, x9.most_, x9.full_, x10, x8))) (iteB (x7.Kind == (6 : Int)) ((M_auto_maker_lay_sPPOR p0 (⟨(3 : Int), p2, (0 : Int), (⟨(0 : Int), (0 : Int), (0 : Int), (0 : Int)⟩ : A4_uint64)⟩ : S_auto_state)).bind fun (x11, x12, x13) => some (.inr (x12.t_.Nodes, x12.t_.Root, x12.most_, x12.full_, x13, x11))) (iteB (x7.Kind == (7 : Int)) ((M_auto_maker_lay_sPPOR p0 (⟨(4 : Int), p2, (0 : Int), (⟨(0 : Int), (0 : Int), (0 : Int), (0 : Int)⟩ : A4_uint64)⟩ : S_auto_state)).bind fun (x14, x15, x16) => some (.inr (x15.t_.Nodes, x15.t_.Root, x15.most_, x15.full_, x16, x14))) (iteB (x7.Kind == (2 : Int)) ((S.M_auto_maker_node_sPPOII p0 x7.B p2).bind fun (x17, x18, x19) => (S.M_auto_maker_node_sPPOII (⟨x18.t_, (⟨x19, p0.a_.first_⟩ : S_auto_Auto), x18.most_, x18.full_⟩ : S_auto_maker) x7.A x17).bind fun (x20, x21, x22) => some (.inr (x21.t_.Nodes, x21.t_.Root, x21.most_, x21.full_, x22, x20))) (iteB (x7.Kind == (3 : Int)) ((S.M_auto_maker_node_sPPOII p0 x7.A p2).bind fun (x23, x24, x25) => (S.M_auto_maker_node_sPPOII (⟨x24.t_, (⟨x25, p0.a_.first_⟩ : S_auto_Auto), x24.most_, x24.full_⟩ : S_auto_maker) x7.B p2).bind fun (x26, x27, x28) => (M_auto_maker_lay_sPPOR (⟨x27.t_, (⟨x28, p0.a_.first_⟩ : S_auto_Auto), x27.most_, x27.full_⟩ : S_auto_maker) (⟨(2 : Int), x23, x26, (⟨(0 : Int), (0 : Int), (0 : Int), (0 : Int)⟩ : A4_uint64)⟩ : S_auto_state)).bind fun (x29, x30, x31) => some (.inr (x30.t_.Nodes, x30.t_.Root, x30.most_, x30.full_, x31, x29))) (iteB (x7.Kind == (5 : Int)) ((S.M_auto_maker_node_sPPOII p0 x7.A p2).bind fun (x32, x33, x34) => some (.inr (x33.t_.Nodes, x33.t_.Root, x33.most_, x33.full_, x34, x32))) (iteB (x7.Kind == (4 : Int)) (iteB (x7.Max != (0 : Int)) ((S.M_auto_maker_repeat_sPPORI p0 x7 p2).bind fun (x35, x36, x37) => some (.inr (x36.t_.Nodes, x36.t_.Root, x36.most_, x36.full_, x37, x35))) (some (.inl ()))) (some (.inl ())))))))) : Option ((Unit) ⊕ ((List S_tree_Node) × Int × Int × Bool × (List S_auto_state) × Int))).bind fun o1 => (match o1 with | .inl _ => (M_auto_maker_lay_sPPOR p0 (⟨(2 : Int), p2, p2, (⟨(0 : Int), (0 : Int), (0 : Int), (0 : Int)⟩ : A4_uint64)⟩ : S_auto_state)).bind fun (x38, x39, x40) => some (x38, (⟨x39.t_, (⟨x40, p0.a_.first_⟩ : S_auto_Auto), x39.most_, x39.full_⟩ : S_auto_maker), x40) | .inr (x1, x2, x3, x4, x5, x6) => some (x6, (⟨(⟨x1, x2⟩ : S_tree_Tree), (⟨x5, p0.a_.first_⟩ : S_auto_Auto), x3, x4⟩ : S_auto_maker), x5)))
theorem okB_auto_maker_node_sPPOII {S : SC_auto_maker_repeat_1_sIPPPOP} (hS : OkSC_auto_maker_repeat_1_sIPPPOP S) {p0 p1 p2 bp0 bp0_2 rp0_2_0 q0 u0 u2} (hm : B_auto_maker_node_sPPOII S p0 p1 p2 = some (q0, u0, u2)) (hc : canL (cfg.still 49) av = [.ptr (some (bp0, 0)), .int .i64 p1, .int .i64 p2]) (A : HH g h [.obj bp0 (.cells none 2 [vs e_S_tree_Node p0.t_.Nodes, .int .i64 p0.t_.Root, .ptr (some (bp0_2, 0)), .int .i64 p0.most_, .bool p0.full_]), .obj bp0_2 (.cells none 2 [rowV rp0_2_0 p0.a_.l_.length, .int .i64 p0.a_.first_]), .lst rp0_2_0 108 (lst e_S_auto_state p0.a_.l_)] F) : ∃ v h', Runs cfg g h 49 av v h' ∧ ∃ (r'2 : Option Nat), v = .int .i64 q0 ∧ HH g h' [.obj bp0 (.cells none 2 [vs e_S_tree_Node u0.t_.Nodes, .int .i64 u0.t_.Root, .ptr (some (bp0_2, 0)), .int .i64 u0.most_, .bool u0.full_]), .obj bp0_2 (.cells none 2 [rowV r'2 u2.length, .int .i64 p0.a_.first_]), .lst r'2 108 (lst e_S_auto_state u2)] F := by
 refine rq1 93 [.tmp 6] hc ?_
 clear hc
 unfold B_auto_maker_node_sPPOII at hm
 refine bg 93 [(0, .ptr (some (bp0, 0))), (1, .int .i64 p1), (2, .int .i64 p2)] fun fr H => ?_
 refine aw_sr 1 ?_
 refine at_el 1 [] H (fun _ => id) fun fr H => ?_
 refine aw_sq ?_
 refine aw_sr 4 ?_
 refine at_gl 3 [] 13 0 4 A H fun fr t H => ?_
 refine at_nl id ?_
 refine aw_if 13 H hm (fun hb hm H => ?_) fun hb hm H => ?_
 ·refine aw_sr 1 ?_
  refine at_el 1 [(6, .int .i64 0)] H (fun _ => id) fun fr H => ?_
  refine aw_rt ?_
  obtain ⟨rfl, rfl, rfl⟩ := injC hm
  exact ⟨.inl rfl, _, rH H, _, rfl, A⟩
 refine aw_kn id ?_
 refine aw_sq ?_
 obtain ⟨o1, ho, hm⟩ := bind_some hm
 refine aw_mono (Q' := fun e fr' h' => (e = .normal ∧ .inl () = o1 ∧ Has fr' 93 [(0, .ptr (some (bp0, 0))), (2, .int .i64 p2)] ∧ HH g h' [.obj bp0 (.cells none 2 [vs e_S_tree_Node p0.t_.Nodes, .int .i64 p0.t_.Root, .ptr (some (bp0_2, 0)), .int .i64 p0.most_, .bool p0.full_]), .obj bp0_2 (.cells none 2 [rowV rp0_2_0 p0.a_.l_.length, .int .i64 p0.a_.first_]), .lst rp0_2_0 108 (lst e_S_auto_state p0.a_.l_)] F) ∨ (∃ x1 x2 x3 x4 x5 x6, e = .ret ∧ .inr (x1, x2, x3, x4, x5, x6) = o1 ∧ ∃ r1, Has fr' 93 [(6, .int .i64 x6)] ∧ HH g h' [.obj bp0 (.cells none 2 [vs e_S_tree_Node x1, .int .i64 x2, .ptr (some (bp0_2, 0)), .int .i64 x3, .bool x4]), .obj bp0_2 (.cells none 2 [rowV r1 x5.length, .int .i64 p0.a_.first_]), .lst r1 108 (lst e_S_auto_state x5)] F) ∨ False) ?_ ?_
 ·replace hm := ho
  clear ho
  refine aw_sr 10 ?_
  refine at_gl 4 [] 18 0 0 A H fun fr t H => ?_
  obtain ⟨x7, hx, hm⟩ := bind_some hm
  refine at_g1 1 [] 20 (.vptr (e_S_tree_Node x7)) h H (fun fr => .of (s_ixV (e := e_S_tree_Node) (x := x7) enc_S_tree_Node (by decide) (by kernel_rfl) hx)) fun fr t H => ?_
  refine at_l1 21 (.agg (e_S_tree_Node x7)) h H (fun fr => .of (s_lv (by kernel_rfl))) fun fr t H => ?_
  obtain ⟨h1, e1, A⟩ := A.pu (.cells none 2 [.int .i64 0, .int .i64 0, .int .i64 0, .int .i64 0, .int .i64 0, .int .i64 0, .int .u64 0, .int .u64 0, .int .u64 0, .int .u64 0])
  refine at_ln 7 (.ptr (some (h.size, 0))) e1 H fun fr t H => ?_
  obtain ⟨h2, hx, A⟩ := A.s0 0 [.int .i64 x7.Kind, .int .i64 x7.A, .int .i64 x7.B, .int .i64 x7.Min, .int .i64 x7.Max, .int .i64 x7.Group, .int .u64 x7.Set.w0, .int .u64 x7.Set.w1, .int .u64 x7.Set.w2, .int .u64 x7.Set.w3] [_, _, _, _, _, _, _, _, _, _]
  refine at_lS hx H fun fr t H => ?_
  refine at_ns 2 id ?_
  refine at_gl 1 [] 23 0 0 A H fun fr t H => ?_
  refine at_nl id ?_
  refine aw_block (id := 0) (by kernel_rfl) ?_
  refine aw_sr 2 ?_
  refine at_el 2 [(24, .bool (x7.Kind == (1 : Int)))] H (fun _ => id) fun fr H => ?_
  refine aw_if 24 H hm (fun hb hm H => ?_) fun hb hm H => ?_
  ·refine aw_sr 7 ?_
   refine at_g1 3 [(26, .ptr (some (bp0, 0))), (27, .int .i64 p2)] 29 _ _ H (fun fr => .of (s_ldA (by kernel_rfl) (A.ldA 0 rfl (o := 6) (n := 4) ⟨Nat.le_of_ble_eq_true rfl, rfl⟩))) fun fr t H => ?_
   replace A := A.k4 1 2 3 0
   obtain ⟨⟨x8, x9, x10⟩, hx, hm⟩ := bind_some hm
   obtain ⟨v1, h3, hr, r2, rfl, A1⟩ := ok_auto_maker_lay_sPPOR (av := [.ptr (some (bp0, 0)), .agg [.int .i64 1, .int .i64 p2, .int .i64 0, .int .u64 x7.Set.w0, .int .u64 x7.Set.w1, .int .u64 x7.Set.w2, .int .u64 x7.Set.w3]]) hx (A.cut 3)
   replace A := A.g33 A1
   refine at_gc1 1 [] 31 hr H fun fr t H => ?_
   refine at_el 1 [(6, .int .i64 x8)] H (fun _ => id) fun fr H => ?_
   refine aw_rt ?_
   replace A := A.d3
   exact .inr (.inl ⟨_, _, _, _, _, _, rfl, injA hm, _, H.ls, A⟩)
  refine aw_sr 2 ?_
  refine at_el 2 [(32, .bool (x7.Kind == (6 : Int)))] H (fun _ => id) fun fr H => ?_
  refine aw_if 32 H hm (fun hb hm H => ?_) fun hb hm H => ?_
  ·refine aw_sr 5 ?_
   replace A := A.k4 1 2 3 0
   obtain ⟨⟨x11, x12, x13⟩, hx, hm⟩ := bind_some hm
   obtain ⟨v1, h4, hr, r3, rfl, A1⟩ := ok_auto_maker_lay_sPPOR (av := [.ptr (some (bp0, 0)), .agg [.int .i64 3, .int .i64 p2, .int .i64 0, .int .u64 0, .int .u64 0, .int .u64 0, .int .u64 0]]) hx (A.cut 3)
   replace A := A.g33 A1
   refine at_gc1 3 [] 37 hr H fun fr t H => ?_
   refine at_el 1 [(6, .int .i64 x11)] H (fun _ => id) fun fr H => ?_
   refine aw_rt ?_
   replace A := A.d3
   exact .inr (.inl ⟨_, _, _, _, _, _, rfl, injA hm, _, H.ls, A⟩)
  refine aw_sr 2 ?_
  refine at_el 2 [(38, .bool (x7.Kind == (7 : Int)))] H (fun _ => id) fun fr H => ?_
  refine aw_if 38 H hm (fun hb hm H => ?_) fun hb hm H => ?_
  ·refine aw_sr 5 ?_
   replace A := A.k4 1 2 3 0
   obtain ⟨⟨x14, x15, x16⟩, hx, hm⟩ := bind_some hm
   obtain ⟨v1, h5, hr, r4, rfl, A1⟩ := ok_auto_maker_lay_sPPOR (av := [.ptr (some (bp0, 0)), .agg [.int .i64 4, .int .i64 p2, .int .i64 0, .int .u64 0, .int .u64 0, .int .u64 0, .int .u64 0]]) hx (A.cut 3)
   replace A := A.g33 A1
   refine at_gc1 3 [] 43 hr H fun fr t H => ?_
   refine at_el 1 [(6, .int .i64 x14)] H (fun _ => id) fun fr H => ?_
   refine aw_rt ?_
   replace A := A.d3
   exact .inr (.inl ⟨_, _, _, _, _, _, rfl, injA hm, _, H.ls, A⟩)
  refine aw_sr 2 ?_
  refine at_el 2 [(44, .bool (x7.Kind == (2 : Int)))] H (fun _ => id) fun fr H => ?_
  refine aw_if 44 H hm (fun hb hm H => ?_) fun hb hm H => ?_
  ·refine aw_sq ?_
   refine aw_dw 12 10 [(0, []), (1, []), (2, []), (3, []), (4, []), (5, []), (6, []), (7, [2]), (8, []), (9, [])] ?_
   refine at_sl 2 [(46, .ptr (some (bp0, 0))), (47, .ptr (some (h.size, 1)))] H fun fr H => ?_
   refine at_t1 48 (.int .i64 x7.A) h2 [(2, h.size)] (g.prot) H (fun fr => .of (s_ld (by kernel_rfl) (A.l1 0 1))) (fun fr H => ?_)
   refine at_sl 2 [(49, .ptr (some (bp0, 0))), (50, .ptr (some (h.size, 2)))] H fun fr H => ?_
   refine at_t1 51 (.int .i64 x7.B) h2 [(5, h.size), (2, h.size)] (g.prot) H (fun fr => .of (s_ld (by kernel_rfl) (A.l1 0 2))) (fun fr H => ?_)
   refine at_sl 1 [(52, .int .i64 p2)] H fun fr H => ?_
   replace A := A.k4 1 2 3 0
   have A1 := A.prot2 3 (pr := [h.size]) (.cons 0 rfl (by simp [Ck.ids]) .nil)
   obtain ⟨⟨x17, x18, x19⟩, hx, hm⟩ := bind_some hm
   obtain ⟨v1, h6, hr, r5, rfl, A1⟩ := hS.ok_auto_maker_node_sPPOII (av := [.ptr (some (bp0, 0)), .int .i64 x7.B, .int .i64 p2]) hx (by kernel_rfl) A1
   replace A := A.p33 A1
   refine at_t1 53 (.int .i64 x17) h6 [(5, h.size), (2, h.size)] (h.size :: g.prot) H (fun fr => Steps.call (by kernel_rfl) hr) (fun fr H => ?_)
   have A1 := A.cut 3
   obtain ⟨⟨x20, x21, x22⟩, hx, hm⟩ := bind_some hm
   obtain ⟨v1, h7, hr, r6, rfl, A1⟩ := hS.ok_auto_maker_node_sPPOII (av := [.ptr (some (bp0, 0)), .int .i64 x7.A, .int .i64 x17]) hx (by kernel_rfl) A1
   replace A := A.g33 A1
   refine at_t1 54 (.int .i64 x20) h7 [(5, h.size), (2, h.size)] (g.prot) H (fun fr => Steps.call (by kernel_rfl) hr) (fun fr H => ?_)
   refine at_el 1 [(6, .int .i64 x20)] H (fun _ => id) fun fr H => ?_
   refine aw_rt ?_
   replace A := A.d3
   exact .inr (.inl ⟨_, _, _, _, _, _, rfl, injA hm, _, H.ls, A⟩)
  refine aw_sr 2 ?_
  refine at_el 2 [(55, .bool (x7.Kind == (3 : Int)))] H (fun _ => id) fun fr H => ?_
  refine aw_if 55 H hm (fun hb hm H => ?_) fun hb hm H => ?_
  ·refine aw_sq ?_
   refine aw_dw 14 12 [(0, []), (1, []), (2, []), (3, []), (5, []), (6, []), (7, []), (4, [7]), (8, []), (9, []), (10, []), (11, [])] ?_
   refine at_sl 2 [(57, .ptr (some (bp0, 0))), (58, .ptr (some (h.size, 1)))] H fun fr H => ?_
   refine at_t1 59 (.int .i64 x7.A) h2 [(2, h.size)] (g.prot) H (fun fr => .of (s_ld (by kernel_rfl) (A.l1 0 1))) (fun fr H => ?_)
   refine at_sl 3 [(60, .int .i64 p2), (62, .ptr (some (bp0, 0))), (63, .ptr (some (h.size, 2)))] H fun fr H => ?_
   refine at_t1 64 (.int .i64 x7.B) h2 [(7, h.size), (2, h.size)] (g.prot) H (fun fr => .of (s_ld (by kernel_rfl) (A.l1 0 2))) (fun fr H => ?_)
   replace A := A.k4 1 2 3 0
   have A1 := A.prot2 3 (pr := [h.size]) (.cons 0 rfl (by simp [Ck.ids]) .nil)
   obtain ⟨⟨x23, x24, x25⟩, hx, hm⟩ := bind_some hm
   obtain ⟨v1, h8, hr, r7, rfl, A1⟩ := hS.ok_auto_maker_node_sPPOII (av := [.ptr (some (bp0, 0)), .int .i64 x7.A, .int .i64 p2]) hx (by kernel_rfl) A1
   replace A := A.p33 A1
   refine at_t1 61 (.int .i64 x23) h8 [(7, h.size), (2, h.size)] (h.size :: g.prot) H (fun fr => Steps.call (by kernel_rfl) hr) (fun fr H => ?_)
   refine at_sl 1 [(65, .int .i64 p2)] H fun fr H => ?_
   have A1 := A.cut 3
   obtain ⟨⟨x26, x27, x28⟩, hx, hm⟩ := bind_some hm
   obtain ⟨v1, h9, hr, r8, rfl, A1⟩ := hS.ok_auto_maker_node_sPPOII (av := [.ptr (some (bp0, 0)), .int .i64 x7.B, .int .i64 p2]) hx (by kernel_rfl) A1
   replace A := A.g33 A1
   refine at_t1 66 (.int .i64 x26) h9 [(7, h.size), (2, h.size)] (g.prot) H (fun fr => Steps.call (by kernel_rfl) hr) (fun fr H => ?_)
   refine at_es 2 [(8, .int .i64 x23), (9, .int .i64 x26)] 6 H (fun _ => id) fun fr H => ?_
   obtain ⟨⟨x29, x30, x31⟩, hx, hm⟩ := bind_some hm
   obtain ⟨v1, h10, hr, r9, rfl, A1⟩ := ok_auto_maker_lay_sPPOR (av := [.ptr (some (bp0, 0)), .agg [.int .i64 2, .int .i64 x23, .int .i64 x26, .int .u64 0, .int .u64 0, .int .u64 0, .int .u64 0]]) hx (A.cut 3)
   replace A := A.g33 A1
   refine at_gc1 4 [] 71 hr H fun fr t H => ?_
   refine at_el 1 [(6, .int .i64 x29)] H (fun _ => id) fun fr H => ?_
   refine aw_rt ?_
   replace A := A.d3
   exact .inr (.inl ⟨_, _, _, _, _, _, rfl, injA hm, _, H.ls, A⟩)
  refine aw_sr 2 ?_
  refine at_el 2 [(72, .bool (x7.Kind == (5 : Int)))] H (fun _ => id) fun fr H => ?_
  refine aw_if 72 H hm (fun hb hm H => ?_) fun hb hm H => ?_
  ·refine aw_sr 6 ?_
   refine at_gl 2 [(74, .ptr (some (bp0, 0)))] 76 0 1 A H fun fr t H => ?_
   replace A := A.k4 1 2 3 0
   have A1 := A.cut 3
   obtain ⟨⟨x32, x33, x34⟩, hx, hm⟩ := bind_some hm
   obtain ⟨v1, h11, hr, r10, rfl, A1⟩ := hS.ok_auto_maker_node_sPPOII (av := [.ptr (some (bp0, 0)), .int .i64 x7.A, .int .i64 p2]) hx (by kernel_rfl) A1
   replace A := A.g33 A1
   refine at_gc1 1 [] 78 hr H fun fr t H => ?_
   refine at_el 1 [(6, .int .i64 x32)] H (fun _ => id) fun fr H => ?_
   refine aw_rt ?_
   replace A := A.d3
   exact .inr (.inl ⟨_, _, _, _, _, _, rfl, injA hm, _, H.ls, A⟩)
  refine aw_sr 2 ?_
  refine at_el 2 [(79, .bool (x7.Kind == (4 : Int)))] H (fun _ => id) fun fr H => ?_
  refine aw_if 79 H hm (fun hb hm H => ?_) fun hb hm H => ?_
  ·refine aw_sr 3 ?_
   refine at_gl 1 [] 82 0 4 A H fun fr t H => ?_
   refine at_el 1 [(83, .bool (x7.Max != (0 : Int)))] H (fun _ => id) fun fr H => ?_
   refine aw_if 83 H hm (fun hb hm H => ?_) fun hb hm H => ?_
   ·refine aw_sr 5 ?_
    refine at_g1 1 [(84, .ptr (some (bp0, 0)))] 85 _ _ H (fun fr => .of (s_ldA (by kernel_rfl) (A.ldA 0 rfl (o := 0) (n := 10) ⟨Nat.le_of_ble_eq_true rfl, rfl⟩))) fun fr t H => ?_
    replace A := A.k4 1 2 3 0
    have A1 := A.cut 3
    obtain ⟨⟨x35, x36, x37⟩, hx, hm⟩ := bind_some hm
    obtain ⟨v1, h12, hr, r11, rfl, A1⟩ := hS.ok_auto_maker_repeat_sPPORI (av := [.ptr (some (bp0, 0)), .agg (e_S_tree_Node x7), .int .i64 p2]) hx (by kernel_rfl) A1
    replace A := A.g33 A1
    refine at_gc1 1 [] 87 hr H fun fr t H => ?_
    refine at_el 1 [(6, .int .i64 x35)] H (fun _ => id) fun fr H => ?_
    refine aw_rt ?_
    replace A := A.d3
    exact .inr (.inl ⟨_, _, _, _, _, _, rfl, injA hm, _, H.ls, A⟩)
   refine aw_sk ?_
   replace A := A.k3 1 2 3
   exact .inl ⟨rfl, injA hm, H.ls, A⟩
  refine aw_sk ?_
  replace A := A.k3 1 2 3
  exact .inl ⟨rfl, injA hm, H.ls, A⟩
 clear ho
 clear A
 intro e fr h13 hQ
 rcases hQ with ⟨rfl, rfl, H, A⟩ | ⟨x1, x2, x3, x4, x5, x6, rfl, rfl, r1, H, A⟩ | hF
 ·show AW _ _ _ _ _ _ _
  refine aw_sr 6 ?_
  obtain ⟨⟨x38, x39, x40⟩, hx, hm⟩ := bind_some hm
  obtain ⟨v1, h14, hr, r12, rfl, A1⟩ := ok_auto_maker_lay_sPPOR (av := [.ptr (some (bp0, 0)), .agg [.int .i64 2, .int .i64 p2, .int .i64 p2, .int .u64 0, .int .u64 0, .int .u64 0, .int .u64 0]]) hx (A.cut 3)
  replace A := A.g33 A1
  refine at_gc1 4 [] 92 hr H fun fr t H => ?_
  refine at_el 1 [(6, .int .i64 x38)] H (fun _ => id) fun fr H => ?_
  refine aw_rt ?_
  obtain ⟨rfl, rfl, rfl⟩ := injC hm
  exact ⟨.inl rfl, _, rH H, _, rfl, A⟩
 ·obtain ⟨rfl, rfl, rfl⟩ := injC hm
  exact ⟨.inl rfl, _, rH H, _, rfl, A⟩
 exact hF.elim
noncomputable def M_auto_maker_repeat_sPPORI_L0 (S : SC_auto_maker_repeat_1_sIPPPOP) (p0 : S_auto_maker) (p1 : S_tree_Node) (p2 : Int) (s : (List S_tree_Node) × Int × Int × Bool × (List S_auto_state) × Int × Int) : Option (((List S_tree_Node) × Int × Int × Bool × (List S_auto_state) × Int × Int) ⊕ (((List S_tree_Node) × Int × Int × Bool × (List S_auto_state) × Int))) :=
 match s with
 | (x14, x15, x16, x17, x18, x19, x20) => iteB ((decide (x20 > p1.Min)) && (!x17)) ((S.M_auto_maker_repeat_1_sIPPPOP x19 (⟨(⟨x14, x15⟩ : S_tree_Tree), (⟨x18, p0.a_.first_⟩ : S_auto_Auto), x16, x17⟩ : S_auto_maker) p1).bind fun (x27, x28, x29) => (M_auto_maker_repeat_2_sIIPPPO x27 p2 (⟨x28.t_, (⟨x29, p0.a_.first_⟩ : S_auto_Auto), x28.most_, x28.full_⟩ : S_auto_maker)).bind fun (x30, x31, x32) => some (.inl (x31.t_.Nodes, x31.t_.Root, x31.most_, x31.full_, x32, x30, IntKind.i64.wrap (x20 - (1 : Int))))) (some (.inr (x14, x15, x16, x17, x18, x19)))
noncomputable def M_auto_maker_repeat_sPPORI_L1 (S : SC_auto_maker_repeat_1_sIPPPOP) (p0 : S_auto_maker) (p1 : S_tree_Node) (s : (List S_tree_Node) × Int × Int × Bool × (List S_auto_state) × Int × Int) : Option (((List S_tree_Node) × Int × Int × Bool × (List S_auto_state) × Int × Int) ⊕ (((List S_tree_Node) × Int × Int × Bool × (List S_auto_state) × Int))) :=
 match s with
 | (x33, x34, x35, x36, x37, x38, x39) => iteB ((decide (x39 < p1.Min)) && (!x36)) ((S.M_auto_maker_repeat_1_sIPPPOP x38 (⟨(⟨x33, x34⟩ : S_tree_Tree), (⟨x37, p0.a_.first_⟩ : S_auto_Auto), x35, x36⟩ : S_auto_maker) p1).bind fun (x46, x47, x48) => some (.inl (x47.t_.Nodes, x47.t_.Root, x47.most_, x47.full_, x48, x46, IntKind.i64.wrap (x39 + (1 : Int))))) (some (.inr (x33, x34, x35, x36, x37, x38)))
noncomputable def B_auto_maker_repeat_sPPORI (S : SC_auto_maker_repeat_1_sIPPPOP) (p0 : S_auto_maker) (p1 : S_tree_Node) (p2 : Int) : Option (Int × S_auto_maker × (List S_auto_state)) :=
 (iteB (decide (p1.Max < (0 : Int))) ((M_auto_maker_repeat_2_sIIPPPO p2 p2 p0).bind fun (x7, x8, x9) => (S.M_auto_maker_repeat_1_sIPPPOP x7 (⟨x8.t_, (⟨x9, p0.a_.first_⟩ : S_auto_Auto), x8.most_, x8.full_⟩ : S_auto_maker) p1).bind fun (x10, x11, x12) => iteB (!x11.full_) ((ixV x12 x7).bind fun x13 => some (x11.t_.Nodes, x11.t_.Root, x11.most_, x11.full_, (x12.set x7.toNat (⟨x13.kind_, x10, x13.b_, x13.set_⟩ : S_auto_state)), x7)) (some (x11.t_.Nodes, x11.t_.Root, x11.most_, x11.full_, x12, x7))) ((loop (M_auto_maker_repeat_sPPORI_L0 S p0 p1 p2) (p0.t_.Nodes, p0.t_.Root, p0.most_, p0.full_, p0.a_.l_, p2, p1.Max)).bind fun (x21, x22, x23, x24, x25, x26) => some (x21, x22, x23, x24, x25, x26)) : Option (((List S_tree_Node) × Int × Int × Bool × (List S_auto_state) × Int))).bind fun (x1, x2, x3, x4, x5, x6) => (loop (M_auto_maker_repeat_sPPORI_L1 S p0 p1) (x1, x2, x3, x4, x5, x6, (0 : Int))).bind fun (x40, x41, x42, x43, x44, x45) => some (x45, (⟨(⟨x40, x41⟩ : S_tree_Tree), (⟨x44, p0.a_.first_⟩ : S_auto_Auto), x42, x43⟩ : S_auto_maker), x44)
theorem okB_auto_maker_repeat_sPPORI {S : SC_auto_maker_repeat_1_sIPPPOP} (hS : OkSC_auto_maker_repeat_1_sIPPPOP S) {p0 p1 p2 bp0 bp0_2 rp0_2_0 q0 u0 u2} (hm : B_auto_maker_repeat_sPPORI S p0 p1 p2 = some (q0, u0, u2)) (hc : canL (cfg.still 66) av = [.ptr (some (bp0, 0)), .agg (e_S_tree_Node p1), .int .i64 p2]) (A : HH g h [.obj bp0 (.cells none 2 [vs e_S_tree_Node p0.t_.Nodes, .int .i64 p0.t_.Root, .ptr (some (bp0_2, 0)), .int .i64 p0.most_, .bool p0.full_]), .obj bp0_2 (.cells none 2 [rowV rp0_2_0 p0.a_.l_.length, .int .i64 p0.a_.first_]), .lst rp0_2_0 108 (lst e_S_auto_state p0.a_.l_)] F) : ∃ v h', Runs cfg g h 66 av v h' ∧ ∃ (r'2 : Option Nat), v = .int .i64 q0 ∧ HH g h' [.obj bp0 (.cells none 2 [vs e_S_tree_Node u0.t_.Nodes, .int .i64 u0.t_.Root, .ptr (some (bp0_2, 0)), .int .i64 u0.most_, .bool u0.full_]), .obj bp0_2 (.cells none 2 [rowV r'2 u2.length, .int .i64 p0.a_.first_]), .lst r'2 108 (lst e_S_auto_state u2)] F := by
 refine rq1 80 [.tmp 6] hc ?_
 clear hc
 unfold B_auto_maker_repeat_sPPORI at hm
 refine bg 80 [(0, .ptr (some (bp0, 0))), (1, .agg (e_S_tree_Node p1)), (2, .int .i64 p2)] fun fr H => ?_
 refine aw_sr 3 ?_
 obtain ⟨h1, e1, A⟩ := A.pu (.cells none 2 [.ptr (some (bp0, 0))])
 refine at_ln 3 (.ptr (some (h.size, 0))) e1 H fun fr t H => ?_
 obtain ⟨h2, e2, A⟩ := A.pu (.cells none 2 (e_S_tree_Node p1))
 refine at_ln 4 (.ptr (some (h1.size, 0))) e2 H fun fr t H => ?_
 refine at_es 1 [] 2 H (fun _ => id) fun fr H => ?_
 refine at_es 2 [(7, .func (.func 82) [] [.ptr (some (h.size, 0)), .ptr (some (h1.size, 0))])] 2 H (fun _ => id) fun fr H => ?_
 refine at_es 2 [(8, .func (.func 83) [] [.ptr (some (h.size, 0))])] 2 H (fun _ => id) fun fr H => ?_
 refine at_el 2 [(9, .int .i64 p2)] H (fun _ => id) fun fr H => ?_
 refine aw_sq ?_
 obtain ⟨o1, ho, hm⟩ := bind_some hm
 refine aw_mono (Q' := fun e fr' h' => (∃ x1 x2 x3 x4 x5 x6, e = .normal ∧ (x1, x2, x3, x4, x5, x6) = o1 ∧ ∃ r1, Has fr' 80 [(3, .ptr (some (h.size, 0))), (4, .ptr (some (h1.size, 0))), (7, .func (.func 82) [] [.ptr (some (h.size, 0)), .ptr (some (h1.size, 0))]), (9, .int .i64 x6)] ∧ HH g h' [.obj h1.size (.cells none 2 (e_S_tree_Node p1)), .obj h.size (.cells none 2 [.ptr (some (bp0, 0))]), .obj bp0 (.cells none 2 [vs e_S_tree_Node x1, .int .i64 x2, .ptr (some (bp0_2, 0)), .int .i64 x3, .bool x4]), .obj bp0_2 (.cells none 2 [rowV r1 x5.length, .int .i64 p0.a_.first_]), .lst r1 108 (lst e_S_auto_state x5)] F) ∨ False) ?_ ?_
 ·replace hm := ho
  clear ho
  refine aw_sr 3 ?_
  refine at_gl 1 [] 17 0 4 A H fun fr t H => ?_
  refine at_el 1 [(18, .bool (decide (p1.Max < (0 : Int))))] H (fun _ => id) fun fr H => ?_
  refine aw_if 18 H hm (fun hb hm H => ?_) fun hb hm H => ?_
  ·refine aw_sr 5 ?_
   replace A : HH g h2 [.obj h.size (.cells none 2 [.ptr (some (bp0, 0))]), _, _, _, .obj h1.size (.cells none 2 (e_S_tree_Node p1))] F := ((((A.front 4 rfl).front 4 rfl).front 4 rfl).front 4 rfl)
   obtain ⟨⟨x7, x8, x9⟩, hx, hm⟩ := bind_some hm
   obtain ⟨v1, h3, hr, r2, rfl, A1⟩ := ok_auto_maker_repeat_2_sIIPPPO (av := [.int .i64 p2, .int .i64 p2, .ptr (some (h.size, 0))]) hx (A.cut 4)
   replace A := A.g44 A1
   refine at_gc1 3 [] 22 hr H fun fr t H => ?_
   refine at_se 1 [(3, .ptr (some (h.size, 0))), (4, .ptr (some (h1.size, 0))), (7, .func (.func 82) [] [.ptr (some (h.size, 0)), .ptr (some (h1.size, 0))]), (9, .int .i64 x7)] H fun fr H => ?_
   refine at_ns 4 id ?_
   have A1 := A.cut 5
   obtain ⟨⟨x10, x11, x12⟩, hx, hm⟩ := bind_some hm
   obtain ⟨v1, h4, hr, r3, rfl, A1⟩ := hS.ok_auto_maker_repeat_1_sIPPPOP (av := [.int .i64 x7, .ptr (some (h.size, 0)), .ptr (some (h1.size, 0))]) hx (by kernel_rfl) A1
   replace A : HH g h4 [.obj h.size (.cells none 2 [.ptr (some (bp0, 0))]), .obj bp0 (.cells none 2 [vs e_S_tree_Node x11.t_.Nodes, .int .i64 x11.t_.Root, _, .int .i64 x11.most_, .bool x11.full_]), .obj bp0_2 (.cells none 2 [rowV r3 x12.length, .int .i64 p0.a_.first_]), .lst r3 108 (lst e_S_auto_state x12), .obj h1.size (.cells none 2 (e_S_tree_Node p1))] F := A.glue0 (n := 5) A1
   refine at_gc1 2 [] 25 hr H fun fr t H => ?_
   refine at_es 1 [(10, .int .i64 x10)] 5 H (fun _ => id) fun fr H => ?_
   refine at_ll 26 0 0 A H fun fr t H => ?_
   refine at_gl 2 [] 29 1 4 A H fun fr t H => ?_
   refine at_el 1 [(30, .bool (!x11.full_))] H (fun _ => id) fun fr H => ?_
   refine aw_if 30 H hm (fun hb hm H => ?_) fun hb hm H => ?_
   ·refine aw_rg 12 ?_
    refine at_ll 31 0 0 A H fun fr t H => ?_
    refine at_gl 2 [] 34 1 2 A H fun fr t H => ?_
    refine at_gl 2 [] 37 2 0 A H fun fr t H => ?_
    obtain ⟨x13, hx, hm⟩ := bind_some hm
    obtain ⟨i1, er1, _, hx, hq1⟩ := HH.ixO enc_S_auto_state (by decide) A 3 (xs := x12) rfl hx
    refine at_g1 2 [(39, .int .i64 x10)] 40 (.ptr (some (i1, x7.toNat * 7))) h4 H (fun fr => .of (s_ixL (s := rowS r3 x12.length) (by kernel_rfl) hx)) fun fr t H => ?_
    obtain ⟨h5, hx, A1⟩ := HH.stO enc_S_auto_state A 3 rfl er1 hq1 (y := (⟨x13.kind_, x10, x13.b_, x13.set_⟩ : S_auto_state)) (o := 1) (new := [.int .i64 x10]) rfl rfl (Nat.le_of_ble_eq_true rfl)
    have hl1 : (x12.set x7.toNat (⟨x13.kind_, x10, x13.b_, x13.set_⟩ : S_auto_state)).length = x12.length := List.length_set
    have el : rowV r3 x12.length = rowV r3 (x12.set x7.toNat (⟨x13.kind_, x10, x13.b_, x13.set_⟩ : S_auto_state)).length := congrArg _ List.length_set.symm
    try rw [el] at H
    try rw [el] at A1
    replace A : HH g h5 [_, _, .obj bp0_2 (.cells none 2 [rowV r3 ((x12.set x7.toNat (⟨x13.kind_, x10, x13.b_, x13.set_⟩ : S_auto_state)).length), .int .i64 p0.a_.first_]), .lst r3 108 (lst e_S_auto_state (x12.set x7.toNat (⟨x13.kind_, x10, x13.b_, x13.set_⟩ : S_auto_state))), _] F := A1
    refine at_gs 1 [] hx H fun fr t H => ?_
    refine at_nil ?_
    replace A := A.k5 4 0 1 2 3
    exact .inl ⟨_, _, _, _, _, _, rfl, injA hm, _, H.ls, A⟩
   refine aw_sk ?_
   replace A := A.k5 4 0 1 2 3
   exact .inl ⟨_, _, _, _, _, _, rfl, injA hm, _, H.ls, A⟩
  refine aw_sr 3 ?_
  refine at_gl 1 [] 43 0 4 A H fun fr t H => ?_
  refine at_el 1 [(11, .int .i64 p1.Max)] H (fun _ => id) fun fr H => ?_
  refine aw_block (id := 0) (by kernel_rfl) ?_
  obtain ⟨o2, ho, hm⟩ := bind_some hm
  refine aw_mono (Q' := fun e fr' h' => (∃ x21 x22 x23 x24 x25 x26, e = .exit 0 ∧ (x21, x22, x23, x24, x25, x26) = o2 ∧ ∃ r5, Has fr' 80 [(3, .ptr (some (h.size, 0))), (4, .ptr (some (h1.size, 0))), (7, .func (.func 82) [] [.ptr (some (h.size, 0)), .ptr (some (h1.size, 0))]), (9, .int .i64 x26)] ∧ HH g h' [.obj h1.size (.cells none 2 (e_S_tree_Node p1)), .obj h.size (.cells none 2 [.ptr (some (bp0, 0))]), .obj bp0 (.cells none 2 [vs e_S_tree_Node x21, .int .i64 x22, .ptr (some (bp0_2, 0)), .int .i64 x23, .bool x24]), .obj bp0_2 (.cells none 2 [rowV r5 x25.length, .int .i64 p0.a_.first_]), .lst r5 108 (lst e_S_auto_state x25)] F) ∨ False) ?_ ?_
  ·refine aw_loop (by kernel_rfl) (fun (s : (List S_tree_Node) × Int × Int × Bool × (List S_auto_state) × Int × Int) fr' h' => ∃ x14 x15 x16 x17 x18 x19 x20, (x14, x15, x16, x17, x18, x19, x20) = s ∧ ∃ r4, Has fr' 80 [(2, .int .i64 p2), (3, .ptr (some (h.size, 0))), (4, .ptr (some (h1.size, 0))), (7, .func (.func 82) [] [.ptr (some (h.size, 0)), .ptr (some (h1.size, 0))]), (8, .func (.func 83) [] [.ptr (some (h.size, 0))]), (9, .int .i64 x19), (11, .int .i64 x20)] ∧ HH g h' [.obj h1.size (.cells none 2 (e_S_tree_Node p1)), .obj h.size (.cells none 2 [.ptr (some (bp0, 0))]), .obj bp0 (.cells none 2 [vs e_S_tree_Node x14, .int .i64 x15, .ptr (some (bp0_2, 0)), .int .i64 x16, .bool x17]), .obj bp0_2 (.cells none 2 [rowV r4 x18.length, .int .i64 p0.a_.first_]), .lst r4 108 (lst e_S_auto_state x18)] F) ho ⟨_, _, _, _, _, _, _, rfl, rp0_2_0, H.ls, A⟩ ?_
   clear ho hm H A
   intro s q fr h6 hI hm
   obtain ⟨x14, x15, x16, x17, x18, x19, x20, rfl, r4, H, A⟩ := hI
   unfold M_auto_maker_repeat_sPPORI_L0 at hm
   refine aw_sq ?_
   refine aw_sr 11 ?_
   refine at_gl 2 [(44, .int .i64 x20)] 46 0 3 A H fun fr t H => ?_
   refine at_sl 2 [(48, .bool (decide (x20 > p1.Min)))] H fun fr H => ?_
   refine at_cl 6 (fun fr' h' => h6 = h' ∧ Has fr' 80 [(2, .int .i64 p2), (3, .ptr (some (h.size, 0))), (4, .ptr (some (h1.size, 0))), (7, .func (.func 82) [] [.ptr (some (h.size, 0)), .ptr (some (h1.size, 0))]), (8, .func (.func 83) [] [.ptr (some (h.size, 0))]), (9, .int .i64 x19), (11, .int .i64 x20), (54, .bool ((decide (x20 > p1.Min)) && (!x17)))]) ?_ ?_
   ·cases hb : (decide (x20 > p1.Min) : Bool) with
    | true =>
     replace H := H.kn 48 hb
     refine at_ll 49 1 0 A H fun fr t H => ?_
     refine at_gl 2 [] 52 2 4 A H fun fr t H => ?_
     refine at_sl 2 [(54, .bool (!x17))] H fun fr H => ?_
     exact at_zb H hb
    | false =>
     replace H := H.kn 48 hb
     refine at_sl 6 [(54, .bool false)] H fun fr H => ?_
     exact at_zb H hb
   intro t fr h' hK
   obtain ⟨e, H⟩ := hK
   subst e
   refine at_nl id ?_
   refine aw_if 54 H hm (fun hb hm H => ?_) fun hb hm H => ?_
   ·refine aw_kn id ?_
    refine aw_sq ?_
    refine aw_block (id := 1) (by kernel_rfl) ?_
    refine aw_rg 7 ?_
    replace A := A.k5 1 2 3 4 0
    have A1 := A.cut 5
    obtain ⟨⟨x27, x28, x29⟩, hx, hm⟩ := bind_some hm
    obtain ⟨v1, h7, hr, r6, rfl, A1⟩ := hS.ok_auto_maker_repeat_1_sIPPPOP (av := [.int .i64 x19, .ptr (some (h.size, 0)), .ptr (some (h1.size, 0))]) hx (by kernel_rfl) A1
    replace A : HH g h7 [.obj h.size (.cells none 2 [.ptr (some (bp0, 0))]), .obj bp0 (.cells none 2 [vs e_S_tree_Node x28.t_.Nodes, .int .i64 x28.t_.Root, _, .int .i64 x28.most_, .bool x28.full_]), .obj bp0_2 (.cells none 2 [rowV r6 x29.length, .int .i64 p0.a_.first_]), .lst r6 108 (lst e_S_auto_state x29), .obj h1.size (.cells none 2 (e_S_tree_Node p1))] F := A.glue0 (n := 5) A1
    refine at_gc1 3 [(57, .func (.func 83) [] [.ptr (some (h.size, 0))])] 60 hr H fun fr t H => ?_
    obtain ⟨⟨x30, x31, x32⟩, hx, hm⟩ := bind_some hm
    obtain ⟨v1, h8, hr, r7, rfl, A1⟩ := ok_auto_maker_repeat_2_sIIPPPO (av := [.int .i64 x27, .int .i64 p2, .ptr (some (h.size, 0))]) hx (A.cut 4)
    replace A := A.g44 A1
    refine at_gc1 1 [] 62 hr H fun fr t H => ?_
    refine at_se 1 [(2, .int .i64 p2), (3, .ptr (some (h.size, 0))), (4, .ptr (some (h1.size, 0))), (7, .func (.func 82) [] [.ptr (some (h.size, 0)), .ptr (some (h1.size, 0))]), (8, .func (.func 83) [] [.ptr (some (h.size, 0))]), (9, .int .i64 x30), (11, .int .i64 x20)] H fun fr H => ?_
    refine at_nr 3 id ?_
    refine at_se 3 [(2, .int .i64 p2), (3, .ptr (some (h.size, 0))), (4, .ptr (some (h1.size, 0))), (7, .func (.func 82) [] [.ptr (some (h.size, 0)), .ptr (some (h1.size, 0))]), (8, .func (.func 83) [] [.ptr (some (h.size, 0))]), (9, .int .i64 x30), (11, .int .i64 (IntKind.i64.wrap (x20 - (1 : Int))))] H fun fr H => ?_
    refine at_nil ?_
    replace A := A.k5 4 0 1 2 3
    exact nx hm ⟨_, _, _, _, _, _, _, rfl, _, H.ls, A⟩
   refine aw_exit (i := 0) (by kernel_rfl) ?_
   exact nr hm fun e => .inl ⟨_, _, _, _, _, _, rfl, e, _, H.ls, A⟩
  clear ho
  clear A
  intro e fr h9 hQ
  rcases hQ with ⟨x21, x22, x23, x24, x25, x26, rfl, rfl, r5, H, A⟩ | hF
  ·exact .inl ⟨_, _, _, _, _, _, rfl, injA hm, _, H.ls, A⟩
  exact hF.elim
 clear ho
 clear A
 intro e fr h10 hQ
 rcases hQ with ⟨x1, x2, x3, x4, x5, x6, rfl, rfl, r1, H, A⟩ | hF
 ·show AW _ _ _ _ _ _ _
  refine aw_sq ?_
  refine aw_sr 1 ?_
  refine at_el 1 [(12, .int .i64 0)] H (fun _ => id) fun fr H => ?_
  refine aw_block (id := 2) (by kernel_rfl) ?_
  obtain ⟨o3, ho, hm⟩ := bind_some hm
  refine aw_mono (Q' := fun e fr' h' => (∃ x40 x41 x42 x43 x44 x45, e = .exit 2 ∧ (x40, x41, x42, x43, x44, x45) = o3 ∧ ∃ r9, Has fr' 80 [(9, .int .i64 x45)] ∧ HH g h' [.obj h1.size (.cells none 2 (e_S_tree_Node p1)), .obj h.size (.cells none 2 [.ptr (some (bp0, 0))]), .obj bp0 (.cells none 2 [vs e_S_tree_Node x40, .int .i64 x41, .ptr (some (bp0_2, 0)), .int .i64 x42, .bool x43]), .obj bp0_2 (.cells none 2 [rowV r9 x44.length, .int .i64 p0.a_.first_]), .lst r9 108 (lst e_S_auto_state x44)] F) ∨ False) ?_ ?_
  ·refine aw_loop (by kernel_rfl) (fun (s : (List S_tree_Node) × Int × Int × Bool × (List S_auto_state) × Int × Int) fr' h' => ∃ x33 x34 x35 x36 x37 x38 x39, (x33, x34, x35, x36, x37, x38, x39) = s ∧ ∃ r8, Has fr' 80 [(3, .ptr (some (h.size, 0))), (4, .ptr (some (h1.size, 0))), (7, .func (.func 82) [] [.ptr (some (h.size, 0)), .ptr (some (h1.size, 0))]), (9, .int .i64 x38), (12, .int .i64 x39)] ∧ HH g h' [.obj h1.size (.cells none 2 (e_S_tree_Node p1)), .obj h.size (.cells none 2 [.ptr (some (bp0, 0))]), .obj bp0 (.cells none 2 [vs e_S_tree_Node x33, .int .i64 x34, .ptr (some (bp0_2, 0)), .int .i64 x35, .bool x36]), .obj bp0_2 (.cells none 2 [rowV r8 x37.length, .int .i64 p0.a_.first_]), .lst r8 108 (lst e_S_auto_state x37)] F) ho ⟨_, _, _, _, _, _, _, rfl, _, H.ls, A⟩ ?_
   clear ho hm H A
   intro s q fr h11 hI hm
   obtain ⟨x33, x34, x35, x36, x37, x38, x39, rfl, r8, H, A⟩ := hI
   unfold M_auto_maker_repeat_sPPORI_L1 at hm
   refine aw_sq ?_
   refine aw_sr 11 ?_
   refine at_gl 2 [(63, .int .i64 x39)] 65 0 3 A H fun fr t H => ?_
   refine at_sl 2 [(67, .bool (decide (x39 < p1.Min)))] H fun fr H => ?_
   refine at_cl 6 (fun fr' h' => h11 = h' ∧ Has fr' 80 [(3, .ptr (some (h.size, 0))), (4, .ptr (some (h1.size, 0))), (7, .func (.func 82) [] [.ptr (some (h.size, 0)), .ptr (some (h1.size, 0))]), (9, .int .i64 x38), (12, .int .i64 x39), (73, .bool ((decide (x39 < p1.Min)) && (!x36)))]) ?_ ?_
   ·cases hb : (decide (x39 < p1.Min) : Bool) with
    | true =>
     replace H := H.kn 67 hb
     refine at_ll 68 1 0 A H fun fr t H => ?_
     refine at_gl 2 [] 71 2 4 A H fun fr t H => ?_
     refine at_sl 2 [(73, .bool (!x36))] H fun fr H => ?_
     exact at_zb H hb
    | false =>
     replace H := H.kn 67 hb
     refine at_sl 6 [(73, .bool false)] H fun fr H => ?_
     exact at_zb H hb
   intro t fr h' hK
   obtain ⟨e, H⟩ := hK
   subst e
   refine at_nl id ?_
   refine aw_if 73 H hm (fun hb hm H => ?_) fun hb hm H => ?_
   ·refine aw_kn id ?_
    refine aw_sq ?_
    refine aw_block (id := 3) (by kernel_rfl) ?_
    refine aw_rg 4 ?_
    replace A := A.k5 1 2 3 4 0
    have A1 := A.cut 5
    obtain ⟨⟨x46, x47, x48⟩, hx, hm⟩ := bind_some hm
    obtain ⟨v1, h12, hr, r10, rfl, A1⟩ := hS.ok_auto_maker_repeat_1_sIPPPOP (av := [.int .i64 x38, .ptr (some (h.size, 0)), .ptr (some (h1.size, 0))]) hx (by kernel_rfl) A1
    replace A : HH g h12 [.obj h.size (.cells none 2 [.ptr (some (bp0, 0))]), .obj bp0 (.cells none 2 [vs e_S_tree_Node x47.t_.Nodes, .int .i64 x47.t_.Root, _, .int .i64 x47.most_, .bool x47.full_]), .obj bp0_2 (.cells none 2 [rowV r10 x48.length, .int .i64 p0.a_.first_]), .lst r10 108 (lst e_S_auto_state x48), .obj h1.size (.cells none 2 (e_S_tree_Node p1))] F := A.glue0 (n := 5) A1
    refine at_gc1 2 [] 78 hr H fun fr t H => ?_
    refine at_se 1 [(3, .ptr (some (h.size, 0))), (4, .ptr (some (h1.size, 0))), (7, .func (.func 82) [] [.ptr (some (h.size, 0)), .ptr (some (h1.size, 0))]), (9, .int .i64 x46), (12, .int .i64 x39)] H fun fr H => ?_
    refine at_nr 3 id ?_
    refine at_se 3 [(3, .ptr (some (h.size, 0))), (4, .ptr (some (h1.size, 0))), (7, .func (.func 82) [] [.ptr (some (h.size, 0)), .ptr (some (h1.size, 0))]), (9, .int .i64 x46), (12, .int .i64 (IntKind.i64.wrap (x39 + (1 : Int))))] H fun fr H => ?_
    refine at_nil ?_
    replace A := A.k5 4 0 1 2 3
    exact nx hm ⟨_, _, _, _, _, _, _, rfl, _, H.ls, A⟩
   refine aw_exit (i := 2) (by kernel_rfl) ?_
   exact nr hm fun e => .inl ⟨_, _, _, _, _, _, rfl, e, _, H.ls, A⟩
  clear ho
  clear A
  intro e fr h13 hQ
  rcases hQ with ⟨x40, x41, x42, x43, x44, x45, rfl, rfl, r9, H, A⟩ | hF
  ·show AW _ _ _ _ _ _ _
   refine aw_sr 2 ?_
   refine at_el 2 [(6, .int .i64 x45)] H (fun _ => id) fun fr H => ?_
   refine aw_rt ?_
   obtain ⟨rfl, rfl, rfl⟩ := injC hm
   refine ⟨.inl rfl, .int .i64 x45, rH H, ?_⟩
   replace A := A.k3 2 3 4
   exact ⟨r9, rfl, A⟩
  exact hF.elim
 exact hF.elim
noncomputable def rSC_auto_maker_repeat_1_sIPPPOP : Nat → SC_auto_maker_repeat_1_sIPPPOP
 | 0 => ⟨fun _ _ _ => none, fun _ _ _ => none, fun _ _ _ => none⟩
 | n + 1 => ⟨B_auto_maker_repeat_1_sIPPPOP (rSC_auto_maker_repeat_1_sIPPPOP n), B_auto_maker_node_sPPOII (rSC_auto_maker_repeat_1_sIPPPOP n), B_auto_maker_repeat_sPPORI (rSC_auto_maker_repeat_1_sIPPPOP n)⟩
theorem okrSC_auto_maker_repeat_1_sIPPPOP  : ∀ n, OkSC_auto_maker_repeat_1_sIPPPOP (rSC_auto_maker_repeat_1_sIPPPOP n)
 | 0 => ⟨fun hm => (by cases hm), fun hm => (by cases hm), fun hm => (by cases hm)⟩
 | n + 1 => ⟨fun hm hc A => okB_auto_maker_repeat_1_sIPPPOP (okrSC_auto_maker_repeat_1_sIPPPOP n) hm hc A, fun hm hc A => okB_auto_maker_node_sPPOII (okrSC_auto_maker_repeat_1_sIPPPOP n) hm hc A, fun hm hc A => okB_auto_maker_repeat_sPPORI (okrSC_auto_maker_repeat_1_sIPPPOP n) hm hc A⟩
noncomputable def M_auto_maker_repeat_1_sIPPPOP : Int → S_auto_maker → S_tree_Node → Option (Int × S_auto_maker × (List S_auto_state)) := (rSC_auto_maker_repeat_1_sIPPPOP bigF).M_auto_maker_repeat_1_sIPPPOP
theorem ok_auto_maker_repeat_1_sIPPPOP {p0 p1_0 p2 bp1 bp1_0 bp1_0_2 rp1_0_2_0 bp2 q0 u1 u3} (hm : M_auto_maker_repeat_1_sIPPPOP p0 p1_0 p2 = some (q0, u1, u3)) (A : HH g h [.obj bp1 (.cells none 2 [.ptr (some (bp1_0, 0))]), .obj bp1_0 (.cells none 2 [vs e_S_tree_Node p1_0.t_.Nodes, .int .i64 p1_0.t_.Root, .ptr (some (bp1_0_2, 0)), .int .i64 p1_0.most_, .bool p1_0.full_]), .obj bp1_0_2 (.cells none 2 [rowV rp1_0_2_0 p1_0.a_.l_.length, .int .i64 p1_0.a_.first_]), .lst rp1_0_2_0 108 (lst e_S_auto_state p1_0.a_.l_), .obj bp2 (.cells none 2 (e_S_tree_Node p2))] F) (hc : canL (cfg.still 82) av = [.int .i64 p0, .ptr (some (bp1, 0)), .ptr (some (bp2, 0))] := by kernel_rfl) : ∃ v h', Runs cfg g h 82 av v h' ∧ ∃ (r'3 : Option Nat), v = .int .i64 q0 ∧ HH g h' [.obj bp1 (.cells none 2 [.ptr (some (bp1_0, 0))]), .obj bp1_0 (.cells none 2 [vs e_S_tree_Node u1.t_.Nodes, .int .i64 u1.t_.Root, .ptr (some (bp1_0_2, 0)), .int .i64 u1.most_, .bool u1.full_]), .obj bp1_0_2 (.cells none 2 [rowV r'3 u3.length, .int .i64 p1_0.a_.first_]), .lst r'3 108 (lst e_S_auto_state u3), .obj bp2 (.cells none 2 (e_S_tree_Node p2))] F := (okrSC_auto_maker_repeat_1_sIPPPOP bigF).ok_auto_maker_repeat_1_sIPPPOP hm hc A
noncomputable def M_auto_maker_node_sPPOII : S_auto_maker → Int → Int → Option (Int × S_auto_maker × (List S_auto_state)) := (rSC_auto_maker_repeat_1_sIPPPOP bigF).M_auto_maker_node_sPPOII
theorem ok_auto_maker_node_sPPOII {p0 p1 p2 bp0 bp0_2 rp0_2_0 q0 u0 u2} (hm : M_auto_maker_node_sPPOII p0 p1 p2 = some (q0, u0, u2)) (A : HH g h [.obj bp0 (.cells none 2 [vs e_S_tree_Node p0.t_.Nodes, .int .i64 p0.t_.Root, .ptr (some (bp0_2, 0)), .int .i64 p0.most_, .bool p0.full_]), .obj bp0_2 (.cells none 2 [rowV rp0_2_0 p0.a_.l_.length, .int .i64 p0.a_.first_]), .lst rp0_2_0 108 (lst e_S_auto_state p0.a_.l_)] F) (hc : canL (cfg.still 49) av = [.ptr (some (bp0, 0)), .int .i64 p1, .int .i64 p2] := by kernel_rfl) : ∃ v h', Runs cfg g h 49 av v h' ∧ ∃ (r'2 : Option Nat), v = .int .i64 q0 ∧ HH g h' [.obj bp0 (.cells none 2 [vs e_S_tree_Node u0.t_.Nodes, .int .i64 u0.t_.Root, .ptr (some (bp0_2, 0)), .int .i64 u0.most_, .bool u0.full_]), .obj bp0_2 (.cells none 2 [rowV r'2 u2.length, .int .i64 p0.a_.first_]), .lst r'2 108 (lst e_S_auto_state u2)] F := (okrSC_auto_maker_repeat_1_sIPPPOP bigF).ok_auto_maker_node_sPPOII hm hc A
noncomputable def M_auto_maker_repeat_sPPORI : S_auto_maker → S_tree_Node → Int → Option (Int × S_auto_maker × (List S_auto_state)) := (rSC_auto_maker_repeat_1_sIPPPOP bigF).M_auto_maker_repeat_sPPORI
theorem ok_auto_maker_repeat_sPPORI {p0 p1 p2 bp0 bp0_2 rp0_2_0 q0 u0 u2} (hm : M_auto_maker_repeat_sPPORI p0 p1 p2 = some (q0, u0, u2)) (A : HH g h [.obj bp0 (.cells none 2 [vs e_S_tree_Node p0.t_.Nodes, .int .i64 p0.t_.Root, .ptr (some (bp0_2, 0)), .int .i64 p0.most_, .bool p0.full_]), .obj bp0_2 (.cells none 2 [rowV rp0_2_0 p0.a_.l_.length, .int .i64 p0.a_.first_]), .lst rp0_2_0 108 (lst e_S_auto_state p0.a_.l_)] F) (hc : canL (cfg.still 66) av = [.ptr (some (bp0, 0)), .agg (e_S_tree_Node p1), .int .i64 p2] := by kernel_rfl) : ∃ v h', Runs cfg g h 66 av v h' ∧ ∃ (r'2 : Option Nat), v = .int .i64 q0 ∧ HH g h' [.obj bp0 (.cells none 2 [vs e_S_tree_Node u0.t_.Nodes, .int .i64 u0.t_.Root, .ptr (some (bp0_2, 0)), .int .i64 u0.most_, .bool u0.full_]), .obj bp0_2 (.cells none 2 [rowV r'2 u2.length, .int .i64 p0.a_.first_]), .lst r'2 108 (lst e_S_auto_state u2)] F := (okrSC_auto_maker_repeat_1_sIPPPOP bigF).ok_auto_maker_repeat_sPPORI hm hc A
noncomputable def M_auto_Build (p0 : S_tree_Tree) (p1 : Int) : Option ((Option S_auto_Auto) × Int) :=
 iteB ((decide (p1 < (1 : Int))) || (decide (p1 > (4096 : Int)))) (some (none, (6 : Int))) ((M_tree_Tree_Right p0).bind fun x1 => iteB (!x1) (some (none, (1 : Int))) ((M_auto_maker_lay_sPPOR (⟨p0, (⟨([] : List S_auto_state), (0 : Int)⟩ : S_auto_Auto), p1, false⟩ : S_auto_maker) (⟨(0 : Int), (0 : Int), (0 : Int), (⟨(0 : Int), (0 : Int), (0 : Int), (0 : Int)⟩ : A4_uint64)⟩ : S_auto_state)).bind fun (x2, x3, x4) => (M_auto_maker_node_sPPOII (⟨x3.t_, (⟨x4, (0 : Int)⟩ : S_auto_Auto), x3.most_, x3.full_⟩ : S_auto_maker) p0.Root x2).bind fun (x5, x6, x7) => iteB x6.full_ (some (none, (7 : Int))) (some (some (⟨x7, x5⟩ : S_auto_Auto), (0 : Int)))))
theorem ok_auto_Build {p0 p1 o0 q1} (hm : M_auto_Build p0 p1 = some (o0, q1)) (A : HH g h [] F) (hc : canL (cfg.still 21) av = [.agg [vs e_S_tree_Node p0.Nodes, .int .i64 p0.Root], .int .i64 p1] := by kernel_rfl) : ∃ v h', Runs cfg g h 21 av v h' ∧ ((∃ (q0 : S_auto_Auto), o0 = some q0 ∧ v = .tuple [.vptr [vs e_S_auto_state q0.l_, .int .i64 q0.first_], .int .i64 q1] ∧ HH g h' [] F) ∨ (o0 = none ∧ v = .tuple [.ptr none, .int .i64 q1] ∧ HH g h' [] F)) := by
 refine rq9 47 [.tmp 4, .tmp 5] hc ?_
 clear hc
 unfold M_auto_Build at hm
 refine bg 47 [(0, .agg [vs e_S_tree_Node p0.Nodes, .int .i64 p0.Root]), (1, .int .i64 p1)] fun fr H => ?_
 refine aw_sr 3 ?_
 obtain ⟨h1, e1, A⟩ := A.pu (.cells none 2 [vs e_S_tree_Node p0.Nodes, .int .i64 p0.Root])
 refine at_ln 2 (.ptr (some (h.size, 0))) e1 H fun fr t H => ?_
 refine at_el 2 [] H (fun _ => id) fun fr H => ?_
 refine aw_sq ?_
 refine aw_block (id := 0) (by kernel_rfl) ?_
 refine aw_sr 7 ?_
 refine at_sl 3 [(11, .bool (decide (p1 < (1 : Int))))] H fun fr H => ?_
 refine at_cl 3 (fun fr' h' => h1 = h' ∧ Has fr' 47 [(1, .int .i64 p1), (2, .ptr (some (h.size, 0))), (14, .bool ((decide (p1 < (1 : Int))) || (decide (p1 > (4096 : Int)))))]) ?_ ?_
 ·cases hb : (decide (p1 < (1 : Int)) : Bool) with
  | true =>
   replace H := H.kn 11 hb
   refine at_sl 3 [(14, .bool true)] H fun fr H => ?_
   exact at_zb H hb
  | false =>
   replace H := H.kn 11 hb
   refine at_sl 3 [(14, .bool (decide (p1 > (4096 : Int))))] H fun fr H => ?_
   exact at_zb H hb
 intro t fr h' hK
 obtain ⟨e, H⟩ := hK
 subst e
 refine at_el 1 [(8, .bool ((decide (p1 < (1 : Int))) || (decide (p1 > (4096 : Int)))))] H (fun _ => id) fun fr H => ?_
 refine aw_if 8 H hm (fun hb hm H => ?_) fun hb hm H => ?_
 ·refine aw_sr 2 ?_
  refine at_el 2 [(4, .ptr none), (5, .int .i64 6)] H (fun _ => id) fun fr H => ?_
  refine aw_rt ?_
  obtain ⟨rfl, rfl⟩ := injB hm
  refine ⟨.inl rfl, .tuple [.ptr none, .int .i64 6], rH H, ?_⟩
  replace A := A.d0
  refine ⟨.tuple [.ptr none, .int .i64 6], h1, by first | rfl | (simp only [fz4T, fz4P, fzP0, fzPA, fzPR, fzPV, fzPQ, fzPI, fzPB, fzPS, fzPN, fz1Q, fz10, fz1I, fz1B, fz1S, fz1V, fz1N, fzL0, fzL1, Option.map_some] <;> rfl), ?_⟩
  exact .inr ⟨rfl, rfl, A⟩
 refine aw_sr 4 ?_
 refine at_l1 16 _ _ H (fun fr => .of (s_ldA (by kernel_rfl) (A.ldA 0 rfl (o := 0) (n := 2) ⟨Nat.le_of_ble_eq_true rfl, rfl⟩))) fun fr t H => ?_
 obtain ⟨x1, hx, hm⟩ := bind_some hm
 obtain ⟨v1, h2, hr, rfl, A1⟩ := ok_tree_Tree_Right (av := [.agg [vs e_S_tree_Node p0.Nodes, .int .i64 p0.Root]]) hx (A.cut 0)
 replace A : HH g h2 [.obj h.size (.cells none 2 [vs e_S_tree_Node p0.Nodes, .int .i64 p0.Root])] F := A.glue0 (n := 0) A1
 refine at_lc1 17 hr H fun fr t H => ?_
 refine at_el 2 [(15, .bool (!x1))] H (fun _ => id) fun fr H => ?_
 refine aw_if 15 H hm (fun hb hm H => ?_) fun hb hm H => ?_
 ·refine aw_sr 2 ?_
  refine at_el 2 [(4, .ptr none), (5, .int .i64 1)] H (fun _ => id) fun fr H => ?_
  refine aw_rt ?_
  obtain ⟨rfl, rfl⟩ := injB hm
  refine ⟨.inl rfl, .tuple [.ptr none, .int .i64 1], rH H, ?_⟩
  replace A := A.d0
  refine ⟨.tuple [.ptr none, .int .i64 1], h2, by first | rfl | (simp only [fz4T, fz4P, fzP0, fzPA, fzPR, fzPV, fzPQ, fzPI, fzPB, fzPS, fzPN, fz1Q, fz10, fz1I, fz1B, fz1S, fz1V, fz1N, fzL0, fzL1, Option.map_some] <;> rfl), ?_⟩
  exact .inr ⟨rfl, rfl, A⟩
 refine aw_ks 7 id ?_
 refine at_l1 19 _ _ H (fun fr => .of (s_ldA (by kernel_rfl) (A.ldA 0 rfl (o := 0) (n := 2) ⟨Nat.le_of_ble_eq_true rfl, rfl⟩))) fun fr t H => ?_
 obtain ⟨h3, e2, A⟩ := A.pu (.cells none 2 [.slice none 0, .int .i64 0])
 refine at_gn 1 [] 21 (.ptr (some (h2.size, 0))) e2 H fun fr t H => ?_
 obtain ⟨h4, e3, A⟩ := A.pu (.cells none 2 [vs e_S_tree_Node p0.Nodes, .int .i64 p0.Root, .ptr (some (h2.size, 0)), .int .i64 p1, .bool false])
 refine at_gn 2 [] 24 (.ptr (some (h3.size, 0))) e3 H fun fr t H => ?_
 refine at_es 1 [(6, .ptr (some (h3.size, 0)))] 4 H (fun _ => id) fun fr H => ?_
 replace A : HH g h4 [.lst none 108 (lst e_S_auto_state ([] : List S_auto_state)), .obj h3.size (.cells none 2 [vs e_S_tree_Node p0.Nodes, .int .i64 p0.Root, .ptr (some (h2.size, 0)), .int .i64 p1, .bool false]), .obj h2.size (.cells none 2 [rowV none (([] : List S_auto_state).length), .int .i64 0]), _] F := A.nilL 108
 replace A := A.k4 1 2 0 3
 obtain ⟨⟨x2, x3, x4⟩, hx, hm⟩ := bind_some hm
 obtain ⟨v1, h5, hr, r1, rfl, A1⟩ := ok_auto_maker_lay_sPPOR (av := [.ptr (some (h3.size, 0)), .agg [.int .i64 0, .int .i64 0, .int .i64 0, .int .u64 0, .int .u64 0, .int .u64 0, .int .u64 0]]) hx (A.cut 3)
 replace A := A.g33 A1
 refine at_gc1 2 [] 27 hr H fun fr t H => ?_
 refine at_el 1 [(7, .int .i64 x2)] H (fun _ => id) fun fr H => ?_
 refine aw_sq ?_
 refine aw_dw 7 12 [(0, []), (1, []), (2, []), (3, []), (4, []), (5, []), (6, []), (7, []), (8, [10003]), (9, []), (10, []), (11, [])] ?_
 refine at_sl 3 [(30, .ptr (some (h3.size, 2)))] H fun fr H => ?_
 refine at_t1 31 (.ptr (some (h2.size, 0))) h5 [(3, h3.size)] (g.prot) H (fun fr => .of (s_ld (by kernel_rfl) (A.l1 0 2))) (fun fr H => ?_)
 refine at_sl 2 [(32, .ptr (some (h3.size, 0))), (33, .ptr (some (h.size, 1)))] H fun fr H => ?_
 refine at_t1 34 (.int .i64 p0.Root) h5 [(6, h.size), (3, h3.size)] (g.prot) H (fun fr => .of (s_ld (by kernel_rfl) (A.l1 3 1))) (fun fr H => ?_)
 refine at_sl 1 [(35, .int .i64 x2)] H fun fr H => ?_
 obtain ⟨⟨x5, x6, x7⟩, hx, hm⟩ := bind_some hm
 obtain ⟨v1, h6, hr, r2, rfl, A1⟩ := ok_auto_maker_node_sPPOII (av := [.ptr (some (h3.size, 0)), .int .i64 p0.Root, .int .i64 x2]) hx (A.cut 3)
 replace A := A.g33 A1
 refine at_t1 36 (.int .i64 x5) h6 [(6, h.size), (3, h3.size)] (g.prot) H (fun fr => Steps.call (by kernel_rfl) hr) (fun fr H => ?_) (hre := fun fr => reOk_again (j := 3) rfl (re_ld (i := 3) (by kernel_rfl) (A.l1 0 2) (sameV_ptr _ _)) (rfl))
 refine at_sl 2 [(38, .ptr (some (h2.size, 1)))] H fun fr H => ?_
 obtain ⟨h7, hx, A⟩ := A.s1 1 [.int .i64 x5] [_, _]
 refine at_t0 (.tuple []) h7 [(6, h.size), (3, h3.size)] (g.prot) H (fun fr => .of (s_st (by kernel_rfl) rfl hx)) (fun fr H => ?_)
 refine at_nl id ?_
 refine aw_sq ?_
 refine aw_sr 4 ?_
 refine at_gl 3 [] 42 0 4 A H fun fr t H => ?_
 refine at_nl id ?_
 refine aw_if 42 H hm (fun hb hm H => ?_) fun hb hm H => ?_
 ·refine aw_sr 2 ?_
  refine at_el 2 [(4, .ptr none), (5, .int .i64 7)] H (fun _ => id) fun fr H => ?_
  refine aw_rt ?_
  obtain ⟨rfl, rfl⟩ := injB hm
  refine ⟨.inl rfl, .tuple [.ptr none, .int .i64 7], rH H, ?_⟩
  replace A := A.d0
  refine ⟨.tuple [.ptr none, .int .i64 7], h7, by first | rfl | (simp only [fz4T, fz4P, fzP0, fzPA, fzPR, fzPV, fzPQ, fzPI, fzPB, fzPS, fzPN, fz1Q, fz10, fz1I, fz1B, fz1S, fz1V, fz1N, fzL0, fzL1, Option.map_some] <;> rfl), ?_⟩
  exact .inr ⟨rfl, rfl, A⟩
 refine aw_ks 6 id ?_
 refine at_gl 3 [] 46 0 2 A H fun fr t H => ?_
 refine at_el 2 [(4, .ptr (some (h2.size, 0))), (5, .int .i64 0)] H (fun _ => id) fun fr H => ?_
 refine aw_rt ?_
 obtain ⟨rfl, rfl⟩ := injB hm
 refine ⟨.inl rfl, .tuple [.ptr (some (h2.size, 0)), .int .i64 0], rH H, ?_⟩
 replace A := A.k2 1 2
 obtain ⟨h8, A1, hy0⟩ := (A.front 0 rfl).frzB
 replace A : HH g h8 [_] F := A1
 obtain ⟨h9, hz1, A1⟩ := (A.front 0 rfl).frz (n := x7.length) (z := 7) (enc_S_auto_state.lenL _) (by decide)
 replace A : HH g h9 [] F := A1
 have hz0 := hy0 [vs e_S_auto_state x7, .int .i64 x5] h9 (by simp only [fz4T, fz4P, fzP0, fzPA, fzPR, fzPV, fzPQ, fzPI, fzPB, fzPS, fzPN, fz1Q, fz10, fz1I, fz1B, fz1S, fz1V, fz1N, fzL0, fzL1, Option.map_some, e_S_auto_Auto, hz1] <;> rfl)
 refine ⟨.tuple [.vptr [vs e_S_auto_state x7, .int .i64 x5], .int .i64 0], h9, by first | rfl | (simp only [fz4T, fz4P, fzP0, fzPA, fzPR, fzPV, fzPQ, fzPI, fzPB, fzPS, fzPN, fz1Q, fz10, fz1I, fz1B, fz1S, fz1V, fz1N, fzL0, fzL1, Option.map_some, e_S_auto_Auto, hz0, hz1] <;> rfl), ?_⟩
 exact .inl ⟨(⟨x7, x5⟩ : S_auto_Auto), rfl, rfl, A⟩
noncomputable def M_auto_Auto_close_L0 (p0 : S_auto_Auto) (p2 : Bool) (p3 : Bool) (s : (List Int) × (List Bool)) : Option (((List Int) × (List Bool)) ⊕ (((List Bool)))) :=
 match s with
 | (x1, x2) => iteB (decide ((x1.length : Int) > (0 : Int))) ((ixV x1 (IntKind.i64.wrap ((x1.length : Int) - (1 : Int)))).bind fun x4 => (subV x1 none (some (IntKind.i64.wrap ((x1.length : Int) - (1 : Int))))).bind fun x5 => (ixV x2 x4).bind fun x6 => iteB x6 (some (.inl (x5, x2))) ((ixV x2 x4).bind fun x7 => (ixV p0.l_ x4).bind fun x8 => iteB (x8.kind_ == (2 : Int)) (need (okN 8 (x5.length + ([x8.a_, x8.b_] : List Int).length)) <| some (.inl ((x5 ++ ([x8.a_, x8.b_] : List Int)), (x2.set x4.toNat true)))) ((iteB ((x8.kind_ == (3 : Int)) && p2) (some true) (some ((x8.kind_ == (4 : Int)) && p3)) : Option ((Bool))).bind fun x9 => iteB x9 (need (okN 8 (x5.length + ([x8.a_] : List Int).length)) <| some (.inl ((x5 ++ ([x8.a_] : List Int)), (x2.set x4.toNat true)))) (some (.inl (x5, (x2.set x4.toNat true))))))) (some (.inr x2))
noncomputable def M_auto_Auto_close_L1 (x3 : List Bool) (s : (List Int) × Int) : Option (((List Int) × Int) ⊕ (((List Int)))) :=
 match s with
 | (x10, x11) => iteB (decide (x11 < (x3.length : Int))) (((ixV x3 x11).bind fun x14 => iteB x14 (need (okN 8 (x10.length + ([x11] : List Int).length)) <| some (x10 ++ ([x11] : List Int))) (some x10) : Option (((List Int)))).bind fun x13 => some (.inl (x13, IntKind.i64.wrap (x11 + (1 : Int))))) (some (.inr x10))
noncomputable def M_auto_Auto_close (p0 : S_auto_Auto) (p1 : List Int) (p2 : Bool) (p3 : Bool) : Option ((List Int)) :=
 need (mkN 1 (p0.l_.length : Int)) <| need (okN 8 p1.length) <| (loop (M_auto_Auto_close_L0 p0 p2 p3) (p1, (List.replicate (p0.l_.length : Int).toNat false))).bind fun x3 => (loop (M_auto_Auto_close_L1 x3) (([] : List Int), (0 : Int))).bind fun x12 => some x12
theorem ok_auto_Auto_close {p0 p1 p2 p3 q0} (hm : M_auto_Auto_close p0 p1 p2 p3 = some q0) (A : HH g h [] F) (hc : canL (cfg.still 52) av = [.vptr [vs e_S_auto_state p0.l_, .int .i64 p0.first_], vs (eI .i64) p1, .bool p2, .bool p3] := by kernel_rfl) : ∃ v h', Runs cfg g h 52 av v h' ∧ v = vs (eI .i64) q0 ∧ HH g h' [] F := by
 refine rq7 95 [.tmp 8] hc ?_
 clear hc
 unfold M_auto_Auto_close at hm
 refine bg 95 [(0, .vptr [vs e_S_auto_state p0.l_, .int .i64 p0.first_]), (1, vs (eI .i64) p1), (2, .bool p2), (3, .bool p3)] fun fr H => ?_
 refine aw_sr 1 ?_
 refine at_es 1 [] 7 H (fun _ => id) fun fr H => ?_
 refine at_g1 3 [] 19 (vs e_S_auto_state p0.l_) h H (fun fr => .of (s_lv (by kernel_rfl))) fun fr t H => ?_
 obtain ⟨hb, hm⟩ := need_some hm
 obtain ⟨h1, e1, A⟩ := A.pL 4 (lst eB (List.replicate (p0.l_.length : Int).toNat false))
 refine at_g1 1 [] 21 (rowV (some h.size) (List.replicate (p0.l_.length : Int).toNat false).length) h1 H (fun fr => .of (s_mkO (e := eB) encB (x := false) (by kernel_rfl) hb (congrArg some e1.symm))) fun fr t H => ?_
 refine at_es 1 [(9, rowV (some h.size) ((List.replicate (p0.l_.length : Int).toNat false).length))] 3 H (fun _ => id) fun fr H => ?_
 have A1 := A.cut 0
 obtain ⟨hb, hm⟩ := need_some hm
 obtain ⟨r1, h2, hr, A1⟩ := HH.clone (C := cfg) (f := 69) (a := 0) (t := 3) (xs := p1) (encI .i64) (by decide) A1 (by kernel_rfl) (l := exts) rfl (by kernel_rfl) (by kernel_rfl) rfl (firstV (encI .i64) _ p1) ((encI .i64).canL _) hb
 replace A : HH g h2 [.lst r1 3 (lst (eI .i64) p1), .lst (some h.size) 4 (lst eB (List.replicate (p0.l_.length : Int).toNat false))] F := A.glue0 (n := 0) A1
 refine at_gc1 1 [] 23 hr H fun fr t H => ?_
 refine at_el 1 [(10, rowV r1 p1.length)] H (fun _ => id) fun fr H => ?_
 refine aw_sq ?_
 refine aw_block (id := 0) (by kernel_rfl) ?_
 replace A : HH g h2 [.lst r1 3 (lst (eI .i64) (p1 ++ [])), _] F := A.tl0 0 rfl
 obtain ⟨o1, ho, hm⟩ := bind_some hm
 refine aw_mono (Q' := fun e fr' h' => (∃ x3, e = .exit 0 ∧ x3 = o1 ∧ ∃ (hl2 : x3.length = (List.replicate (p0.l_.length : Int).toNat false).length), Has fr' 95 [(9, rowV (some h.size) x3.length)] ∧ HH g h' [.lst (some h.size) 4 (lst eB x3)] F) ∨ False) ?_ ?_
 ·refine aw_loop (by kernel_rfl) (fun (s : (List Int) × (List Bool)) fr' h' => ∃ x1 x2, (x1, x2) = s ∧ ∃ r2 tl1, ∃ (hl1 : x2.length = (List.replicate (p0.l_.length : Int).toNat false).length), Has fr' 95 [(0, .vptr [vs e_S_auto_state p0.l_, .int .i64 p0.first_]), (2, .bool p2), (3, .bool p3), (9, rowV (some h.size) x2.length), (10, rowV r2 x1.length)] ∧ HH g h' [.lst r2 3 (lst (eI .i64) (x1 ++ tl1)), .lst (some h.size) 4 (lst eB x2)] F) ho ⟨_, _, rfl, _, [], rfl, H.ls, A⟩ ?_
  clear ho hm H A
  intro s q fr h3 hI hm
  obtain ⟨x1, x2, rfl, r2, tl1, hl1, H, A⟩ := hI
  unfold M_auto_Auto_close_L0 at hm
  refine aw_sq ?_
  refine aw_sr 3 ?_
  refine at_el 3 [(26, .bool (decide ((x1.length : Int) > (0 : Int))))] H (fun _ => id) fun fr H => ?_
  refine aw_if 26 H hm (fun hb hm H => ?_) fun hb hm H => ?_
  ·refine aw_kn id ?_
   refine aw_block (id := 1) (by kernel_rfl) ?_
   refine aw_sr 7 ?_
   obtain ⟨x4, hx, hm⟩ := bind_some hm
   obtain ⟨i1, er1, _, hx, hq1⟩ := HH.ixT (encI .i64) (by decide) A 0 (xs := x1) (tl := tl1) rfl hx
   refine at_g1 4 [] 31 (.ptr (some (i1, (IntKind.i64.wrap ((x1.length : Int) - (1 : Int))).toNat * 1))) h3 H (fun fr => .of (s_ixL (s := rowS r2 x1.length) (by kernel_rfl) hx)) fun fr t H => ?_
   refine at_l1 32 _ _ H (fun fr => .of (s_ld (by kernel_rfl) (row_ld1 (encI .i64) (HH.row A 0 rfl er1) hq1 (o := 0) rfl))) fun fr t H => ?_
   refine at_es 1 [(11, .int .i64 x4)] 6 H (fun _ => id) fun fr H => ?_
   obtain ⟨x5, hx, hm⟩ := bind_some hm
   have Aw1 := A
   obtain ⟨tl2, A1⟩ := HH.cutT A 0 (xs := x1) (tl := tl1) rfl hx
   replace A : HH g h3 [.lst r2 3 (lst (eI .i64) (x5 ++ tl2)), _] F := A1
   refine at_g1 4 [] 37 (rowV r2 x5.length) h3 H (fun fr => .of (s_subT (encI .i64) (by decide) Aw1 0 (xs := x1) (tl := tl1) (k' := .i64) rfl (by kernel_rfl) (by kernel_rfl) hx)) fun fr t H => ?_
   refine at_se 1 [(0, .vptr [vs e_S_auto_state p0.l_, .int .i64 p0.first_]), (2, .bool p2), (3, .bool p3), (9, rowV (some h.size) x2.length), (10, rowV r2 x5.length), (11, .int .i64 x4)] H fun fr H => ?_
   refine at_nl id ?_
   refine aw_sq ?_
   refine aw_sr 4 ?_
   obtain ⟨x6, hx, hm⟩ := bind_some hm
   obtain ⟨i2, er2, _, hx, hq2⟩ := HH.ixO encB (by decide) A 1 (xs := x2) rfl hx
   refine at_g1 2 [] 40 (.ptr (some (i2, x4.toNat * 1))) h3 H (fun fr => .of (s_ixL (s := rowS (some h.size) x2.length) (by kernel_rfl) hx)) fun fr t H => ?_
   refine at_l1 41 _ _ H (fun fr => .of (s_ld (by kernel_rfl) (row_ld1 encB (HH.row A 1 rfl er2) hq2 (o := 0) rfl))) fun fr t H => ?_
   refine at_nl id ?_
   refine aw_if 41 H hm (fun hb hm H => ?_) fun hb hm H => ?_
   ·refine aw_exit (i := 1) (by kernel_rfl) ?_
    exact nx hm ⟨_, _, rfl, _, tl2, hl1, H.ls, A⟩
   refine aw_ks 4 id ?_
   obtain ⟨x7, hx, hm⟩ := bind_some hm
   obtain ⟨i3, er3, _, hx, hq3⟩ := HH.ixO encB (by decide) A 1 (xs := x2) rfl hx
   refine at_g1 2 [] 44 (.ptr (some (i3, x4.toNat * 1))) h3 H (fun fr => .of (s_ixL (s := rowS (some h.size) x2.length) (by kernel_rfl) hx)) fun fr t H => ?_
   obtain ⟨h4, hx, A1⟩ := HH.stO encB A 1 rfl er3 hq3 (y := true) (o := 0) (new := [.bool true]) rfl rfl (Nat.le_of_ble_eq_true rfl)
   have hl3 : (x2.set x4.toNat true).length = (List.replicate (p0.l_.length : Int).toNat false).length := List.length_set.trans hl1
   have el : rowV (some h.size) x2.length = rowV (some h.size) (x2.set x4.toNat true).length := congrArg _ List.length_set.symm
   try rw [el] at H
   try rw [el] at A1
   replace A : HH g h4 [_, .lst (some h.size) 4 (lst eB (x2.set x4.toNat true))] F := A1
   refine at_ls hx H fun fr t H => ?_
   refine at_ns 9 id ?_
   refine at_g1 3 [] 48 (vs e_S_auto_state p0.l_) h4 H (fun fr => .of (s_lv (by kernel_rfl))) fun fr t H => ?_
   obtain ⟨x8, hx, hm⟩ := bind_some hm
   refine at_g1 1 [] 50 (.vptr (e_S_auto_state x8)) h4 H (fun fr => .of (s_ixV (e := e_S_auto_state) (x := x8) enc_S_auto_state (by decide) (by kernel_rfl) hx)) fun fr t H => ?_
   refine at_l1 51 (.agg (e_S_auto_state x8)) h4 H (fun fr => .of (s_lv (by kernel_rfl))) fun fr t H => ?_
   obtain ⟨h5, e2, A⟩ := A.pu (.cells none 2 [.int .i64 0, .int .i64 0, .int .i64 0, .int .u64 0, .int .u64 0, .int .u64 0, .int .u64 0])
   refine at_ln 12 (.ptr (some (h4.size, 0))) e2 H fun fr t H => ?_
   obtain ⟨h6, hx, A⟩ := A.s0 0 [.int .i64 x8.kind_, .int .i64 x8.a_, .int .i64 x8.b_, .int .u64 x8.set_.w0, .int .u64 x8.set_.w1, .int .u64 x8.set_.w2, .int .u64 x8.set_.w3] [_, _, _, _, _, _, _]
   refine at_lS hx H fun fr t H => ?_
   refine at_nl id ?_
   refine aw_block (id := 2) (by kernel_rfl) ?_
   refine aw_sr 4 ?_
   refine at_gl 1 [] 54 0 0 A H fun fr t H => ?_
   refine at_el 2 [(52, .bool (x8.kind_ == (2 : Int)))] H (fun _ => id) fun fr H => ?_
   refine aw_if 52 H hm (fun hb hm H => ?_) fun hb hm H => ?_
   ·refine aw_rg 8 ?_
    refine at_gl 2 [(56, rowV r2 x5.length)] 58 0 1 A H fun fr t H => ?_
    refine at_gl 1 [] 60 0 2 A H fun fr t H => ?_
    obtain ⟨h7, e3, A⟩ := A.pL 3 [.int .i64 x8.a_, .int .i64 x8.b_]
    refine at_ln 61 (rowV (some h6.size) (([x8.a_, x8.b_] : List Int).length)) e3 H fun fr t H => ?_
    obtain ⟨hb, hm⟩ := need_some hm
    obtain ⟨r3, tl3, h8, hx, A1⟩ := HH.appT (encI .i64) (by decide) A 2 (xs := x5) (tl := tl2) (ys := ([x8.a_, x8.b_] : List Int)) rfl (row_first A 0 rfl (n := ([x8.a_, x8.b_] : List Int).length) (z := 1) rfl (by decide)) rfl rfl hb
    replace A : HH g h8 [.lst (some h6.size) 3 ([.int .i64 x8.a_, .int .i64 x8.b_]), _, .lst r3 3 (lst (eI .i64) ((x5 ++ ([x8.a_, x8.b_] : List Int)) ++ tl3)), _] F := A1
    replace A := A.k3 1 2 3
    refine at_l1 62 _ _ H (fun fr => .of (s_app (s := rowS r2 x5.length) (by kernel_rfl) hx)) fun fr t H => ?_
    refine at_se 1 [(0, .vptr [vs e_S_auto_state p0.l_, .int .i64 p0.first_]), (2, .bool p2), (3, .bool p3), (9, rowV (some h.size) ((x2.set x4.toNat true).length)), (10, rowV r3 ((x5 ++ ([x8.a_, x8.b_] : List Int)).length))] H fun fr H => ?_
    refine at_nil ?_
    replace A := A.k2 1 2
    exact nx hm ⟨_, _, rfl, _, tl3, hl3, H.ls, A⟩
   refine aw_sq ?_
   obtain ⟨o2, ho, hm⟩ := bind_some hm
   refine aw_mono (Q' := fun e fr' h' => (∃ x9, e = .normal ∧ x9 = o2 ∧ Has fr' 95 [(0, .vptr [vs e_S_auto_state p0.l_, .int .i64 p0.first_]), (2, .bool p2), (3, .bool p3), (9, rowV (some h.size) ((x2.set x4.toNat true).length)), (10, rowV r2 x5.length), (12, .ptr (some (h4.size, 0))), (63, .bool x9)] ∧ HH g h' [.obj h4.size (.cells none 2 (e_S_auto_state x8)), .lst r2 3 (lst (eI .i64) (x5 ++ tl2)), .lst (some h.size) 4 (lst eB (x2.set x4.toNat true))] F) ∨ False) ?_ ?_
   ·replace hm := ho
    clear ho
    refine aw_sr 7 ?_
    refine at_gl 1 [] 65 0 0 A H fun fr t H => ?_
    refine at_sl 2 [(67, .bool (x8.kind_ == (3 : Int)))] H fun fr H => ?_
    refine at_cl 2 (fun fr' h' => h6 = h' ∧ Has fr' 95 [(0, .vptr [vs e_S_auto_state p0.l_, .int .i64 p0.first_]), (2, .bool p2), (3, .bool p3), (9, rowV (some h.size) ((x2.set x4.toNat true).length)), (10, rowV r2 x5.length), (12, .ptr (some (h4.size, 0))), (69, .bool ((x8.kind_ == (3 : Int)) && p2))]) ?_ ?_
    ·cases hb : (x8.kind_ == (3 : Int) : Bool) with
     | true =>
      replace H := H.kn 67 hb
      refine at_sl 2 [(69, .bool p2)] H fun fr H => ?_
      exact at_zb H hb
     | false =>
      replace H := H.kn 67 hb
      refine at_sl 2 [(69, .bool false)] H fun fr H => ?_
      exact at_zb H hb
    intro t fr h' hK
    obtain ⟨e, H⟩ := hK
    subst e
    refine at_el 1 [(63, .bool ((x8.kind_ == (3 : Int)) && p2))] H (fun _ => id) fun fr H => ?_
    refine aw_if 63 H hm (fun hb hm H => ?_) fun hb hm H => ?_
    ·refine aw_sk ?_
     exact .inl ⟨_, rfl, injA hm, H.ls, A⟩
    refine aw_rg 7 ?_
    refine at_gl 1 [] 71 0 0 A H fun fr t H => ?_
    refine at_sl 2 [(73, .bool (x8.kind_ == (4 : Int)))] H fun fr H => ?_
    refine at_cl 2 (fun fr' h' => h6 = h' ∧ Has fr' 95 [(0, .vptr [vs e_S_auto_state p0.l_, .int .i64 p0.first_]), (2, .bool p2), (3, .bool p3), (9, rowV (some h.size) ((x2.set x4.toNat true).length)), (10, rowV r2 x5.length), (12, .ptr (some (h4.size, 0))), (75, .bool ((x8.kind_ == (4 : Int)) && p3))]) ?_ ?_
    ·cases hb : (x8.kind_ == (4 : Int) : Bool) with
     | true =>
      replace H := H.kn 73 hb
      refine at_sl 2 [(75, .bool p3)] H fun fr H => ?_
      exact at_zb H hb
     | false =>
      replace H := H.kn 73 hb
      refine at_sl 2 [(75, .bool false)] H fun fr H => ?_
      exact at_zb H hb
    intro t fr h' hK
    obtain ⟨e, H⟩ := hK
    subst e
    refine at_sl 1 [(63, .bool ((x8.kind_ == (4 : Int)) && p3))] H fun fr H => ?_
    refine at_nil ?_
    exact .inl ⟨_, rfl, injA hm, H.ls, A⟩
   clear ho
   clear A
   intro e fr h9 hQ
   rcases hQ with ⟨x9, rfl, rfl, H, A⟩ | hF
   ·show AW _ _ _ _ _ _ _
    refine aw_if 63 H hm (fun hb hm H => ?_) fun hb hm H => ?_
    ·refine aw_rg 6 ?_
     refine at_gl 2 [(76, rowV r2 x5.length)] 78 0 1 A H fun fr t H => ?_
     obtain ⟨h10, e4, A⟩ := A.pL 3 [.int .i64 x8.a_]
     refine at_ln 79 (rowV (some h9.size) (([x8.a_] : List Int).length)) e4 H fun fr t H => ?_
     obtain ⟨hb, hm⟩ := need_some hm
     obtain ⟨r4, tl4, h11, hx, A1⟩ := HH.appT (encI .i64) (by decide) A 2 (xs := x5) (tl := tl2) (ys := ([x8.a_] : List Int)) rfl (row_first A 0 rfl (n := ([x8.a_] : List Int).length) (z := 1) rfl (by decide)) rfl rfl hb
     replace A : HH g h11 [.lst (some h9.size) 3 ([.int .i64 x8.a_]), _, .lst r4 3 (lst (eI .i64) ((x5 ++ ([x8.a_] : List Int)) ++ tl4)), _] F := A1
     replace A := A.k3 1 2 3
     refine at_l1 80 _ _ H (fun fr => .of (s_app (s := rowS r2 x5.length) (by kernel_rfl) hx)) fun fr t H => ?_
     refine at_se 1 [(0, .vptr [vs e_S_auto_state p0.l_, .int .i64 p0.first_]), (2, .bool p2), (3, .bool p3), (9, rowV (some h.size) ((x2.set x4.toNat true).length)), (10, rowV r4 ((x5 ++ ([x8.a_] : List Int)).length))] H fun fr H => ?_
     refine at_nil ?_
     replace A := A.k2 1 2
     exact nx hm ⟨_, _, rfl, _, tl4, hl3, H.ls, A⟩
    refine aw_sk ?_
    replace A := A.k2 1 2
    exact nx hm ⟨_, _, rfl, _, tl2, hl3, H.ls, A⟩
   exact hF.elim
  refine aw_exit (i := 0) (by kernel_rfl) ?_
  replace A := A.k1 1
  exact nr hm fun e => .inl ⟨_, rfl, e, hl1, H.ls, A⟩
 clear ho
 clear A
 intro e fr h12 hQ
 rcases hQ with ⟨x3, rfl, rfl, hl2, H, A⟩ | hF
 ·show AW _ _ _ _ _ _ _
  refine aw_sr 1 ?_
  refine at_el 1 [(13, .slice none 0)] H (fun _ => id) fun fr H => ?_
  refine aw_sq ?_
  refine aw_sr 3 ?_
  refine at_el 3 [(81, rowV (some h.size) x3.length), (82, .int .i64 (x3.length : Int)), (83, .int .i64 0)] H (fun _ => id) fun fr H => ?_
  refine aw_block (id := 3) (by kernel_rfl) ?_
  replace A : HH g h12 [.lst none 3 (lst (eI .i64) ([] : List Int)), _] F := A.nilL 3
  obtain ⟨o3, ho, hm⟩ := bind_some hm
  refine aw_mono (Q' := fun e fr' h' => (∃ x12, e = .exit 3 ∧ x12 = o3 ∧ ∃ r6, Has fr' 95 [(13, rowV r6 x12.length)] ∧ HH g h' [.lst r6 3 (lst (eI .i64) x12)] F) ∨ False) ?_ ?_
  ·refine aw_loop (by kernel_rfl) (fun (s : (List Int) × Int) fr' h' => ∃ x10 x11, (x10, x11) = s ∧ ∃ r5, Has fr' 95 [(13, rowV r5 x10.length), (81, rowV (some h.size) x3.length), (82, .int .i64 (x3.length : Int)), (83, .int .i64 x11)] ∧ HH g h' [.lst r5 3 (lst (eI .i64) x10), .lst (some h.size) 4 (lst eB x3)] F) ho ⟨_, _, rfl, none, H.ls, A⟩ ?_
   clear ho hm H A
   intro s q fr h13 hI hm
   obtain ⟨x10, x11, rfl, r5, H, A⟩ := hI
   unfold M_auto_Auto_close_L1 at hm
   refine aw_sr 1 ?_
   refine at_el 1 [(84, .bool (decide (x11 < (x3.length : Int))))] H (fun _ => id) fun fr H => ?_
   refine aw_sq ?_
   refine aw_if 84 H hm (fun hb hm H => ?_) fun hb hm H => ?_
   ·refine aw_kn id ?_
    refine aw_sq ?_
    obtain ⟨o4, ho, hm⟩ := bind_some hm
    refine aw_mono (Q' := fun e fr' h' => (∃ x13, e = .normal ∧ x13 = o4 ∧ ∃ r7, Has fr' 95 [(13, rowV r7 x13.length), (81, rowV (some h.size) x3.length), (82, .int .i64 (x3.length : Int)), (83, .int .i64 x11)] ∧ HH g h' [.lst r7 3 (lst (eI .i64) x13), .lst (some h.size) 4 (lst eB x3)] F) ∨ False) ?_ ?_
    ·replace hm := ho
     clear ho
     refine aw_block (id := 4) (by kernel_rfl) ?_
     refine aw_sr 5 ?_
     obtain ⟨x14, hx, hm⟩ := bind_some hm
     obtain ⟨i4, er4, _, hx, hq4⟩ := HH.ixO encB (by decide) A 1 (xs := x3) rfl hx
     refine at_g1 1 [(85, .int .i64 x11)] 86 (.ptr (some (i4, x11.toNat * 1))) h13 H (fun fr => .of (s_ixL (s := rowS (some h.size) x3.length) (by kernel_rfl) hx)) fun fr t H => ?_
     refine at_l1 87 _ _ H (fun fr => .of (s_ld (by kernel_rfl) (row_ld1 encB (HH.row A 1 rfl er4) hq4 (o := 0) rfl))) fun fr t H => ?_
     refine at_es 2 [(14, .int .i64 x11), (15, .bool x14)] 1 H (fun _ => id) fun fr H => ?_
     refine at_el 1 [(88, .bool x14)] H (fun _ => id) fun fr H => ?_
     refine aw_if 88 H hm (fun hb hm H => ?_) fun hb hm H => ?_
     ·refine aw_rg 5 ?_
      refine at_sl 2 [(89, rowV r5 x10.length), (90, .int .i64 x11)] H fun fr H => ?_
      obtain ⟨h14, e5, A⟩ := A.pL 3 [.int .i64 x11]
      refine at_ln 91 (rowV (some h13.size) (([x11] : List Int).length)) e5 H fun fr t H => ?_
      obtain ⟨hb, hm⟩ := need_some hm
      obtain ⟨r8, h15, hx, A1⟩ := HH.appO (encI .i64) (by decide) A 1 (xs := x10) (ys := ([x11] : List Int)) rfl (row_first A 0 rfl (n := ([x11] : List Int).length) (z := 1) rfl (by decide)) rfl rfl hb
      replace A : HH g h15 [.lst (some h13.size) 3 ([.int .i64 x11]), .lst r8 3 (lst (eI .i64) (x10 ++ ([x11] : List Int))), _] F := A1
      replace A := A.k2 1 2
      refine at_l1 92 _ _ H (fun fr => .of (s_app (s := rowS r5 x10.length) (by kernel_rfl) hx)) fun fr t H => ?_
      refine at_se 1 [(13, rowV r8 ((x10 ++ ([x11] : List Int)).length)), (81, rowV (some h.size) x3.length), (82, .int .i64 (x3.length : Int)), (83, .int .i64 x11)] H fun fr H => ?_
      refine at_nil ?_
      exact .inl ⟨_, rfl, injA hm, _, H.ls, A⟩
     refine aw_sk ?_
     exact .inl ⟨_, rfl, injA hm, _, H.ls, A⟩
    clear ho
    clear A
    intro e fr h16 hQ
    rcases hQ with ⟨x13, rfl, rfl, r7, H, A⟩ | hF
    ·show AW _ _ _ _ _ _ _
     refine aw_rg 2 ?_
     refine at_se 2 [(13, rowV r7 x13.length), (81, rowV (some h.size) x3.length), (82, .int .i64 (x3.length : Int)), (83, .int .i64 (IntKind.i64.wrap (x11 + (1 : Int))))] H fun fr H => ?_
     refine at_nil ?_
     exact nx hm ⟨_, _, rfl, _, H.ls, A⟩
    exact hF.elim
   refine aw_exit (i := 3) (by kernel_rfl) ?_
   replace A := A.d1
   exact nr hm fun e => .inl ⟨_, rfl, e, _, H.ls, A⟩
  clear ho
  clear A
  intro e fr h17 hQ
  rcases hQ with ⟨x12, rfl, rfl, r6, H, A⟩ | hF
  ·show AW _ _ _ _ _ _ _
   refine aw_sr 2 ?_
   refine at_el 2 [(8, rowV r6 x12.length)] H (fun _ => id) fun fr H => ?_
   refine aw_rt ?_
   obtain rfl := injA hm
   refine ⟨.inl rfl, rowV r6 x12.length, rH H, ?_⟩
   obtain ⟨h18, hz0, A1⟩ := (A.front 0 rfl).frz (n := x12.length) (z := 1) ((encI .i64).lenL _) (by decide)
   replace A : HH g h18 [] F := A1
   refine ⟨vs (eI .i64) x12, h18, by first | rfl | (simp only [fz3T, fz3A, fz3B, fz3R, fz2A, fz2R, fz2V, fz2I, fz2B, fz2S, fz2N, fzL0, fzL1, fz1I, fz1B, fz1S, fz1V, fz1N, Option.map_some, hz0] <;> rfl), ?_⟩
   exact ⟨rfl, A⟩
  exact hF.elim
 exact hF.elim
noncomputable def M_auto_Auto_stops (p0 : S_auto_Auto) (p1 : List Int) (p2 : Bool) (p3 : Bool) : Option (Bool) :=
 (M_auto_Auto_close p0 p1 p2 p3).bind fun x1 => (M_slices_Contains_int_int x1 (0 : Int)).bind fun x2 => some x2
theorem ok_auto_Auto_stops {p0 p1 p2 p3 q0} (hm : M_auto_Auto_stops p0 p1 p2 p3 = some q0) (A : HH g h [] F) (hc : canL (cfg.still 50) av = [.vptr [vs e_S_auto_state p0.l_, .int .i64 p0.first_], vs (eI .i64) p1, .bool p2, .bool p3] := by kernel_rfl) : ∃ v h', Runs cfg g h 50 av v h' ∧ v = .bool q0 ∧ HH g h' [] F := by
 refine rq1 15 [.tmp 8] hc ?_
 clear hc
 unfold M_auto_Auto_stops at hm
 refine bg 15 [(0, .vptr [vs e_S_auto_state p0.l_, .int .i64 p0.first_]), (1, vs (eI .i64) p1), (2, .bool p2), (3, .bool p3)] fun fr H => ?_
 refine aw_sr 1 ?_
 refine at_es 1 [] 7 H (fun _ => id) fun fr H => ?_
 obtain ⟨x1, hx, hm⟩ := bind_some hm
 obtain ⟨v1, h1, hr, rfl, A1⟩ := ok_auto_Auto_close (av := [.vptr [vs e_S_auto_state p0.l_, .int .i64 p0.first_], vs (eI .i64) p1, .bool p2, .bool p3]) hx (A.cut 0)
 replace A := A.g00 A1
 refine at_gc1 4 [] 13 hr H fun fr t H => ?_
 obtain ⟨x2, hx, hm⟩ := bind_some hm
 obtain ⟨v1, h2, hr, rfl, A1⟩ := ok_slices_Contains_int_int (av := [vs (eI .i64) x1, .int .i64 0]) hx (A.cut 0)
 replace A := A.g00 A1
 refine at_lc1 14 hr H fun fr t H => ?_
 refine at_el 1 [(8, .bool x2)] H (fun _ => id) fun fr H => ?_
 refine aw_rt ?_
 obtain rfl := injA hm
 exact ⟨.inl rfl, _, rH H, rfl, A⟩
noncomputable def M_auto_Auto_Ends_L0 (p0 : S_auto_Auto) (p1 : List UInt8) (s : (List Int) × (List Int) × Int) : Option (((List Int) × (List Int) × Int) ⊕ (((List Int)))) :=
 match s with
 | (x2, x3, x4) => iteB (decide ((x3.length : Int) > (0 : Int))) (((M_auto_Auto_stops p0 x3 (x4 == (0 : Int)) (x4 == (p1.length : Int))).bind fun x7 => iteB x7 (need (okN 8 (x2.length + ([x4] : List Int).length)) <| some (x2 ++ ([x4] : List Int))) (some x2) : Option (((List Int)))).bind fun x6 => iteB (x4 == (p1.length : Int)) (some (.inr x6)) ((ixS p1 x4).bind fun x8 => (M_auto_Auto_Step p0 x3 x8).bind fun x9 => some (.inl (x6, x9, IntKind.i64.wrap (x4 + (1 : Int)))))) (some (.inr x2))
noncomputable def M_auto_Auto_Ends (p0 : S_auto_Auto) (p1 : List UInt8) (p2 : Int) : Option ((List Int)) :=
 iteB ((decide (p2 < (0 : Int))) || (decide (p2 > (p1.length : Int)))) (some ([] : List Int)) ((M_auto_Auto_Start p0 (p2 == (0 : Int))).bind fun x1 => (loop (M_auto_Auto_Ends_L0 p0 p1) (([] : List Int), x1, p2)).bind fun x5 => some x5)
theorem ok_auto_Auto_Ends {p0 p1 p2 q0} (hm : M_auto_Auto_Ends p0 p1 p2 = some q0) (A : HH g h [] F) (hc : canL (cfg.still 24) av = [.vptr [vs e_S_auto_state p0.l_, .int .i64 p0.first_], .str p1, .int .i64 p2] := by kernel_rfl) : ∃ v h', Runs cfg g h 24 av v h' ∧ ∃ (rq0 : Option Nat), v = rowV rq0 q0.length ∧ HH g h' [.lst rq0 3 (lst (eI .i64) q0)] F := by
 refine rq1 52 [.tmp 6] hc ?_
 clear hc
 unfold M_auto_Auto_Ends at hm
 refine bg 52 [(0, .vptr [vs e_S_auto_state p0.l_, .int .i64 p0.first_]), (1, .str p1), (2, .int .i64 p2)] fun fr H => ?_
 refine aw_sr 1 ?_
 refine at_el 1 [] H (fun _ => id) fun fr H => ?_
 refine aw_sq ?_
 refine aw_sr 8 ?_
 refine at_sl 3 [(12, .bool (decide (p2 < (0 : Int))))] H fun fr H => ?_
 refine at_cl 5 (fun fr' h' => h = h' ∧ Has fr' 52 [(0, .vptr [vs e_S_auto_state p0.l_, .int .i64 p0.first_]), (1, .str p1), (2, .int .i64 p2), (17, .bool ((decide (p2 < (0 : Int))) || (decide (p2 > (p1.length : Int)))))]) ?_ ?_
 ·cases hb : (decide (p2 < (0 : Int)) : Bool) with
  | true =>
   replace H := H.kn 12 hb
   refine at_sl 5 [(17, .bool true)] H fun fr H => ?_
   exact at_zb H hb
  | false =>
   replace H := H.kn 12 hb
   refine at_sl 5 [(17, .bool (decide (p2 > (p1.length : Int))))] H fun fr H => ?_
   exact at_zb H hb
 intro t fr h' hK
 obtain ⟨e, H⟩ := hK
 subst e
 refine at_nl id ?_
 refine aw_if 17 H hm (fun hb hm H => ?_) fun hb hm H => ?_
 ·refine aw_sr 1 ?_
  refine at_el 1 [(6, .slice none 0)] H (fun _ => id) fun fr H => ?_
  refine aw_rt ?_
  obtain rfl := injA hm
  refine ⟨.inl rfl, .slice none 0, rH H, ?_⟩
  replace A : HH g h [.lst none 3 (lst (eI .i64) ([] : List Int))] F := A.nilL 3
  exact ⟨none, rfl, A⟩
 refine aw_ks 1 id ?_
 refine at_es 1 [(7, .slice none 0)] 5 H (fun _ => id) fun fr H => ?_
 obtain ⟨x1, hx, hm⟩ := bind_some hm
 obtain ⟨v1, h1, hr, rfl, A1⟩ := ok_auto_Auto_Start (av := [.vptr [vs e_S_auto_state p0.l_, .int .i64 p0.first_], .bool (p2 == (0 : Int))]) hx (A.cut 0)
 replace A := A.g00 A1
 refine at_gc1 3 [] 21 hr H fun fr t H => ?_
 refine at_el 1 [(8, vs (eI .i64) x1)] H (fun _ => id) fun fr H => ?_
 refine aw_sq ?_
 refine aw_sr 2 ?_
 refine at_el 2 [(9, .int .i64 p2)] H (fun _ => id) fun fr H => ?_
 refine aw_block (id := 0) (by kernel_rfl) ?_
 replace A : HH g h1 [.lst none 3 (lst (eI .i64) ([] : List Int))] F := A.nilL 3
 obtain ⟨o1, ho, hm⟩ := bind_some hm
 refine aw_mono (Q' := fun e fr' h' => (∃ x5, e = .exit 0 ∧ x5 = o1 ∧ ∃ r2, Has fr' 52 [(7, rowV r2 x5.length)] ∧ HH g h' [.lst r2 3 (lst (eI .i64) x5)] F) ∨ False) ?_ ?_
 ·refine aw_loop (by kernel_rfl) (fun (s : (List Int) × (List Int) × Int) fr' h' => ∃ x2 x3 x4, (x2, x3, x4) = s ∧ ∃ r1, Has fr' 52 [(0, .vptr [vs e_S_auto_state p0.l_, .int .i64 p0.first_]), (1, .str p1), (7, rowV r1 x2.length), (8, vs (eI .i64) x3), (9, .int .i64 x4)] ∧ HH g h' [.lst r1 3 (lst (eI .i64) x2)] F) ho ⟨_, _, _, rfl, none, H.ls, A⟩ ?_
  clear ho hm H A
  intro s q fr h2 hI hm
  obtain ⟨x2, x3, x4, rfl, r1, H, A⟩ := hI
  unfold M_auto_Auto_Ends_L0 at hm
  refine aw_sq ?_
  refine aw_sr 3 ?_
  refine at_el 3 [(25, .bool (decide ((x3.length : Int) > (0 : Int))))] H (fun _ => id) fun fr H => ?_
  refine aw_if 25 H hm (fun hb hm H => ?_) fun hb hm H => ?_
  ·refine aw_kn id ?_
   refine aw_sq ?_
   refine aw_block (id := 1) (by kernel_rfl) ?_
   refine aw_sq ?_
   obtain ⟨o2, ho, hm⟩ := bind_some hm
   refine aw_mono (Q' := fun e fr' h' => (∃ x6, e = .normal ∧ x6 = o2 ∧ ∃ r3, Has fr' 52 [(0, .vptr [vs e_S_auto_state p0.l_, .int .i64 p0.first_]), (1, .str p1), (7, rowV r3 x6.length), (8, vs (eI .i64) x3), (9, .int .i64 x4)] ∧ HH g h' [.lst r3 3 (lst (eI .i64) x6)] F) ∨ False) ?_ ?_
   ·replace hm := ho
    clear ho
    refine aw_sr 9 ?_
    obtain ⟨x7, hx, hm⟩ := bind_some hm
    obtain ⟨v1, h3, hr, rfl, A1⟩ := ok_auto_Auto_stops (av := [.vptr [vs e_S_auto_state p0.l_, .int .i64 p0.first_], vs (eI .i64) x3, .bool (x4 == (0 : Int)), .bool (x4 == (p1.length : Int))]) hx (A.cut 0)
    replace A := A.g00 A1
    refine at_gc1 8 [] 36 hr H fun fr t H => ?_
    refine at_nl id ?_
    refine aw_if 36 H hm (fun hb hm H => ?_) fun hb hm H => ?_
    ·refine aw_rg 5 ?_
     refine at_sl 2 [(37, rowV r1 x2.length), (38, .int .i64 x4)] H fun fr H => ?_
     obtain ⟨h4, e1, A⟩ := A.pL 3 [.int .i64 x4]
     refine at_ln 39 (rowV (some h3.size) (([x4] : List Int).length)) e1 H fun fr t H => ?_
     obtain ⟨hb, hm⟩ := need_some hm
     obtain ⟨r4, h5, hx, A1⟩ := HH.appO (encI .i64) (by decide) A 1 (xs := x2) (ys := ([x4] : List Int)) rfl (row_first A 0 rfl (n := ([x4] : List Int).length) (z := 1) rfl (by decide)) rfl rfl hb
     replace A : HH g h5 [.lst (some h3.size) 3 ([.int .i64 x4]), .lst r4 3 (lst (eI .i64) (x2 ++ ([x4] : List Int)))] F := A1
     replace A := A.k1 1
     refine at_l1 40 _ _ H (fun fr => .of (s_app (s := rowS r1 x2.length) (by kernel_rfl) hx)) fun fr t H => ?_
     refine at_se 1 [(0, .vptr [vs e_S_auto_state p0.l_, .int .i64 p0.first_]), (1, .str p1), (7, rowV r4 ((x2 ++ ([x4] : List Int)).length)), (8, vs (eI .i64) x3), (9, .int .i64 x4)] H fun fr H => ?_
     refine at_nil ?_
     exact .inl ⟨_, rfl, injA hm, _, H.ls, A⟩
    refine aw_sk ?_
    exact .inl ⟨_, rfl, injA hm, _, H.ls, A⟩
   clear ho
   clear A
   intro e fr h6 hQ
   rcases hQ with ⟨x6, rfl, rfl, r3, H, A⟩ | hF
   ·show AW _ _ _ _ _ _ _
    refine aw_sq ?_
    refine aw_sr 4 ?_
    refine at_el 4 [(44, .bool (x4 == (p1.length : Int)))] H (fun _ => id) fun fr H => ?_
    refine aw_if 44 H hm (fun hb hm H => ?_) fun hb hm H => ?_
    ·refine aw_exit (i := 0) (by kernel_rfl) ?_
     exact nr hm fun e => .inl ⟨_, rfl, e, _, H.ls, A⟩
    refine aw_kr 7 id ?_
    obtain ⟨x8, hx, hm⟩ := bind_some hm
    refine at_g1 4 [(45, .vptr [vs e_S_auto_state p0.l_, .int .i64 p0.first_]), (46, vs (eI .i64) x3)] 49 (.int .u8 x8) h6 H (fun fr => .of (s_ixS (by kernel_rfl) hx)) fun fr t H => ?_
    obtain ⟨x9, hx, hm⟩ := bind_some hm
    obtain ⟨v1, h7, hr, rfl, A1⟩ := ok_auto_Auto_Step (av := [.vptr [vs e_S_auto_state p0.l_, .int .i64 p0.first_], vs (eI .i64) x3, .int .u8 x8]) hx (A.cut 0)
    replace A := A.g00 A1
    refine at_lc1 50 hr H fun fr t H => ?_
    refine at_se 1 [(0, .vptr [vs e_S_auto_state p0.l_, .int .i64 p0.first_]), (1, .str p1), (7, rowV r3 x6.length), (8, vs (eI .i64) x9), (9, .int .i64 x4)] H fun fr H => ?_
    refine at_nr 3 id ?_
    refine at_se 3 [(0, .vptr [vs e_S_auto_state p0.l_, .int .i64 p0.first_]), (1, .str p1), (7, rowV r3 x6.length), (8, vs (eI .i64) x9), (9, .int .i64 (IntKind.i64.wrap (x4 + (1 : Int))))] H fun fr H => ?_
    refine at_nil ?_
    exact nx hm ⟨_, _, _, rfl, _, H.ls, A⟩
   exact hF.elim
  refine aw_exit (i := 0) (by kernel_rfl) ?_
  exact nr hm fun e => .inl ⟨_, rfl, e, _, H.ls, A⟩
 clear ho
 clear A
 intro e fr h8 hQ
 rcases hQ with ⟨x5, rfl, rfl, r2, H, A⟩ | hF
 ·show AW _ _ _ _ _ _ _
  refine aw_sr 2 ?_
  refine at_el 2 [(6, rowV r2 x5.length)] H (fun _ => id) fun fr H => ?_
  refine aw_rt ?_
  obtain rfl := injA hm
  exact ⟨.inl rfl, _, rH H, _, rfl, A⟩
 exact hF.elim
noncomputable def M_auto_Auto_Stops (p0 : S_auto_Auto) (p1 : List Int) (p2 : Bool) : Option (Bool) :=
 (M_auto_Auto_stops p0 p1 false p2).bind fun x1 => some x1
theorem ok_auto_Auto_Stops {p0 p1 p2 q0} (hm : M_auto_Auto_Stops p0 p1 p2 = some q0) (A : HH g h [] F) (hc : canL (cfg.still 27) av = [.vptr [vs e_S_auto_state p0.l_, .int .i64 p0.first_], vs (eI .i64) p1, .bool p2] := by kernel_rfl) : ∃ v h', Runs cfg g h 27 av v h' ∧ v = .bool q0 ∧ HH g h' [] F := by
 refine rq1 11 [.tmp 6] hc ?_
 clear hc
 unfold M_auto_Auto_Stops at hm
 refine bg 11 [(0, .vptr [vs e_S_auto_state p0.l_, .int .i64 p0.first_]), (1, vs (eI .i64) p1), (2, .bool p2)] fun fr H => ?_
 refine aw_sr 1 ?_
 refine at_es 1 [] 5 H (fun _ => id) fun fr H => ?_
 obtain ⟨x1, hx, hm⟩ := bind_some hm
 obtain ⟨v1, h1, hr, rfl, A1⟩ := ok_auto_Auto_stops (av := [.vptr [vs e_S_auto_state p0.l_, .int .i64 p0.first_], vs (eI .i64) p1, .bool false, .bool p2]) hx (A.cut 0)
 replace A := A.g00 A1
 refine at_gc1 3 [] 10 hr H fun fr t H => ?_
 refine at_el 1 [(6, .bool x1)] H (fun _ => id) fun fr H => ?_
 refine aw_rt ?_
 obtain rfl := injA hm
 exact ⟨.inl rfl, _, rH H, rfl, A⟩
end Go.Av.L
