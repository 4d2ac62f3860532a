/-
 Models of functions, and that the abstract run tells them. Written by lift2.py.
-/
import Derived.Test.YtiodcbipjnmpgaaDoorKCfg
import Derived.Test.YtiodcbipjnmpgaaDoorK0
import Derived.Test.YtiodcbipjnmpgaaDoorK1
import Derived.Test.YtiodcbipjnmpgaaDoorK2
namespace Go.Av.L
open Go.Av Go.Lib
set_option maxRecDepth 10000
set_option linter.unusedVariables false
set_option linter.unusedSimpArgs false
structure SC_rex_walk_group_sPO where
 M_rex_walk_group_sPO : S_rex_walk → Option (Int × S_rex_walk × (List S_tree_Node))
 M_rex_walk_expression_sPO : S_rex_walk → Option (Int × S_rex_walk × (List S_tree_Node))
 M_rex_walk_branch_sPO : S_rex_walk → Option (Int × S_rex_walk × (List S_tree_Node))
 M_rex_walk_atom_sPO : S_rex_walk → Option (Int × S_rex_walk × (List S_tree_Node))
structure OkSC_rex_walk_group_sPO (S : SC_rex_walk_group_sPO) : Prop where
 ok_rex_walk_group_sPO : ∀ {g : Gd} {h : AHeap} {F : List Ck} {p0 : S_rex_walk} {bp0 : Nat} {rp0_3 : Option Nat} {q0 : Int} {u0 : S_rex_walk} {u1 : List S_tree_Node} {av : List AVal} (hm : S.M_rex_walk_group_sPO p0 = some (q0, u0, u1)) (hc : canL (cfg.still 50) av = [.ptr (some (bp0, 0))]) (A : HH g h [.obj bp0 (.cells none 2 [.str p0.s_, .int .i64 p0.at_, .bool p0.extended_, rowV rp0_3 p0.t_.Nodes.length, .int .i64 p0.t_.Root, .int .i64 p0.groups_, .int .i64 p0.depth_, .int .i64 p0.wrong_, .bool p0.full_]), .lst rp0_3 45 (lst e_S_tree_Node p0.t_.Nodes)] F), ∃ v h', Runs cfg g h 50 av v h' ∧ ∃ (r'1 : Option Nat), v = .int .i64 q0 ∧ HH g h' [.obj bp0 (.cells none 2 [.str u0.s_, .int .i64 u0.at_, .bool u0.extended_, rowV r'1 u1.length, .int .i64 u0.t_.Root, .int .i64 u0.groups_, .int .i64 u0.depth_, .int .i64 u0.wrong_, .bool u0.full_]), .lst r'1 45 (lst e_S_tree_Node u1)] F
 ok_rex_walk_expression_sPO : ∀ {g : Gd} {h : AHeap} {F : List Ck} {p0 : S_rex_walk} {bp0 : Nat} {rp0_3 : Option Nat} {q0 : Int} {u0 : S_rex_walk} {u1 : List S_tree_Node} {av : List AVal} (hm : S.M_rex_walk_expression_sPO p0 = some (q0, u0, u1)) (hc : canL (cfg.still 12) av = [.ptr (some (bp0, 0))]) (A : HH g h [.obj bp0 (.cells none 2 [.str p0.s_, .int .i64 p0.at_, .bool p0.extended_, rowV rp0_3 p0.t_.Nodes.length, .int .i64 p0.t_.Root, .int .i64 p0.groups_, .int .i64 p0.depth_, .int .i64 p0.wrong_, .bool p0.full_]), .lst rp0_3 45 (lst e_S_tree_Node p0.t_.Nodes)] F), ∃ v h', Runs cfg g h 12 av v h' ∧ ∃ (r'1 : Option Nat), v = .int .i64 q0 ∧ HH g h' [.obj bp0 (.cells none 2 [.str u0.s_, .int .i64 u0.at_, .bool u0.extended_, rowV r'1 u1.length, .int .i64 u0.t_.Root, .int .i64 u0.groups_, .int .i64 u0.depth_, .int .i64 u0.wrong_, .bool u0.full_]), .lst r'1 45 (lst e_S_tree_Node u1)] F
 ok_rex_walk_branch_sPO : ∀ {g : Gd} {h : AHeap} {F : List Ck} {p0 : S_rex_walk} {bp0 : Nat} {rp0_3 : Option Nat} {q0 : Int} {u0 : S_rex_walk} {u1 : List S_tree_Node} {av : List AVal} (hm : S.M_rex_walk_branch_sPO p0 = some (q0, u0, u1)) (hc : canL (cfg.still 20) av = [.ptr (some (bp0, 0))]) (A : HH g h [.obj bp0 (.cells none 2 [.str p0.s_, .int .i64 p0.at_, .bool p0.extended_, rowV rp0_3 p0.t_.Nodes.length, .int .i64 p0.t_.Root, .int .i64 p0.groups_, .int .i64 p0.depth_, .int .i64 p0.wrong_, .bool p0.full_]), .lst rp0_3 45 (lst e_S_tree_Node p0.t_.Nodes)] F), ∃ v h', Runs cfg g h 20 av v h' ∧ ∃ (r'1 : Option Nat), v = .int .i64 q0 ∧ HH g h' [.obj bp0 (.cells none 2 [.str u0.s_, .int .i64 u0.at_, .bool u0.extended_, rowV r'1 u1.length, .int .i64 u0.t_.Root, .int .i64 u0.groups_, .int .i64 u0.depth_, .int .i64 u0.wrong_, .bool u0.full_]), .lst r'1 45 (lst e_S_tree_Node u1)] F
 ok_rex_walk_atom_sPO : ∀ {g : Gd} {h : AHeap} {F : List Ck} {p0 : S_rex_walk} {bp0 : Nat} {rp0_3 : Option Nat} {q0 : Int} {u0 : S_rex_walk} {u1 : List S_tree_Node} {av : List AVal} (hm : S.M_rex_walk_atom_sPO p0 = some (q0, u0, u1)) (hc : canL (cfg.still 32) av = [.ptr (some (bp0, 0))]) (A : HH g h [.obj bp0 (.cells none 2 [.str p0.s_, .int .i64 p0.at_, .bool p0.extended_, rowV rp0_3 p0.t_.Nodes.length, .int .i64 p0.t_.Root, .int .i64 p0.groups_, .int .i64 p0.depth_, .int .i64 p0.wrong_, .bool p0.full_]), .lst rp0_3 45 (lst e_S_tree_Node p0.t_.Nodes)] F), ∃ v h', Runs cfg g h 32 av v h' ∧ ∃ (r'1 : Option Nat), v = .int .i64 q0 ∧ HH g h' [.obj bp0 (.cells none 2 [.str u0.s_, .int .i64 u0.at_, .bool u0.extended_, rowV r'1 u1.length, .int .i64 u0.t_.Root, .int .i64 u0.groups_, .int .i64 u0.depth_, .int .i64 u0.wrong_, .bool u0.full_]), .lst r'1 45 (lst e_S_tree_Node u1)] F
/-! ### (*boulter/rex.walk).group -/
noncomputable def B_rex_walk_group_sPO (S : SC_rex_walk_group_sPO) (p0 : S_rex_walk) : Option (Int × S_rex_walk × (List S_tree_Node)) :=
 (iteB (decide ((IntKind.i64.wrap (p0.groups_ + (1 : Int))) > (1024 : Int))) (some true) (some p0.full_) : Option ((Bool))).bind fun x1 => (S.M_rex_walk_expression_sPO (⟨p0.s_, p0.at_, p0.extended_, p0.t_, IntKind.i64.wrap (p0.groups_ + (1 : Int)), IntKind.i64.wrap (p0.depth_ + (1 : Int)), p0.wrong_, x1⟩ : S_rex_walk)).bind fun (x2, x3, x4) => ((M_rex_walk_ok_sPO (⟨x3.s_, x3.at_, x3.extended_, (⟨x4, x3.t_.Root⟩ : S_tree_Tree), x3.groups_, IntKind.i64.wrap (x3.depth_ - (1 : Int)), x3.wrong_, x3.full_⟩ : S_rex_walk)).bind fun x13 => (iteB x13 ((M_rex_walk_next_sPOS (⟨x3.s_, x3.at_, x3.extended_, (⟨x4, x3.t_.Root⟩ : S_tree_Tree), x3.groups_, IntKind.i64.wrap (x3.depth_ - (1 : Int)), x3.wrong_, x3.full_⟩ : S_rex_walk) ([41] : List UInt8)).bind fun (x23, x24) => some (x24.s_, x24.at_, x24.extended_, x24.t_.Root, x24.groups_, x24.depth_, x24.wrong_, x24.full_, !x23)) (some (x3.s_, x3.at_, x3.extended_, x3.t_.Root, x3.groups_, IntKind.i64.wrap (x3.depth_ - (1 : Int)), x3.wrong_, x3.full_, false)) : Option ((List UInt8) × Int × Bool × Int × Int × Int × Int × Bool × Bool)).bind fun (x14, x15, x16, x17, x18, x19, x20, x21, x22) => iteB x22 ((M_rex_walk_fail_sPOI (⟨x14, x15, x16, (⟨x4, x17⟩ : S_tree_Tree), x18, x19, x20, x21⟩ : S_rex_walk) (x14.length : Int)).bind fun x25 => some (x25.s_, x25.at_, x25.extended_, x25.t_.Root, x25.groups_, x25.depth_, x25.wrong_, x25.full_)) (some (x14, x15, x16, x17, x18, x19, x20, x21)) : Option (((List UInt8) × Int × Bool × Int × Int × Int × Int × Bool))).bind fun (x5, x6, x7, x8, x9, x10, x11, x12) => (M_rex_walk_add_sPOR (⟨x5, x6, x7, (⟨x4, x8⟩ : S_tree_Tree), x9, x10, x11, x12⟩ : S_rex_walk) (⟨(5 : Int), x2, (0 : Int), (0 : Int), (0 : Int), mn (IntKind.i64.wrap (p0.groups_ + (1 : Int))) (1024 : Int), (⟨(0 : Int), (0 : Int), (0 : Int), (0 : Int)⟩ : A4_uint64)⟩ : S_tree_Node)).bind fun (x26, x27, x28) => some (x26, (⟨x27.s_, x27.at_, x27.extended_, (⟨x28, x27.t_.Root⟩ : S_tree_Tree), x27.groups_, x27.depth_, x27.wrong_, x27.full_⟩ : S_rex_walk), x28)
theorem okB_rex_walk_group_sPO {S : SC_rex_walk_group_sPO} (hS : OkSC_rex_walk_group_sPO S) {g : Gd} {h : AHeap} {F : List Ck} {p0 : S_rex_walk} {bp0 : Nat} {rp0_3 : Option Nat} {q0 : Int} {u0 : S_rex_walk} {u1 : List S_tree_Node} {av : List AVal} (hm : B_rex_walk_group_sPO S p0 = some (q0, u0, u1)) (hc : canL (cfg.still 50) av = [.ptr (some (bp0, 0))]) (A : HH g h [.obj bp0 (.cells none 2 [.str p0.s_, .int .i64 p0.at_, .bool p0.extended_, rowV rp0_3 p0.t_.Nodes.length, .int .i64 p0.t_.Root, .int .i64 p0.groups_, .int .i64 p0.depth_, .int .i64 p0.wrong_, .bool p0.full_]), .lst rp0_3 45 (lst e_S_tree_Node p0.t_.Nodes)] F) : ∃ v h', Runs cfg g h 50 av v h' ∧ ∃ (r'1 : Option Nat), v = .int .i64 q0 ∧ HH g h' [.obj bp0 (.cells none 2 [.str u0.s_, .int .i64 u0.at_, .bool u0.extended_, rowV r'1 u1.length, .int .i64 u0.t_.Root, .int .i64 u0.groups_, .int .i64 u0.depth_, .int .i64 u0.wrong_, .bool u0.full_]), .lst r'1 45 (lst e_S_tree_Node u1)] F := by
 refine runsQ1 (n := 57) (rs := [.tmp 2]) (by kernel_rfl) hc (by kernel_rfl) ?_
 clear hc
 unfold B_rex_walk_group_sPO at hm
 refine start (n := 57) [(0, .ptr (some (bp0, 0)))] (by kernel_rfl) (by kernel_rfl) ?_
 intro fr H
 refine aw_seq (by kernel_rfl) ?_
 refine aw_reg (id := 0) (n := 1) [(0, [])] (by kernel_rfl) (by kernel_rfl) ?_
 refine at_seg [(0, [])] [(0, .ptr (some (bp0, 0)))] H (noU_all rfl) (fun fr => by kernel_rfl) ?_
 intro fr H
 refine at_nil ?_
 show AW cfg 50 g (right (bodyC cfg.P 50)) fr h _
 refine aw_seq (by kernel_rfl) ?_
 refine aw_reg (id := 1) (n := 8) [(0, []), (1, []), (2, []), (3, []), (4, []), (5, []), (6, []), (7, [])] (by kernel_rfl) (by kernel_rfl) ?_
 refine at_seg [(0, []), (1, []), (2, [])] [(0, .ptr (some (bp0, 0))), (5, .ptr (some (bp0, 0))), (7, .ptr (some (bp0, 5)))] H (noU_all rfl) (fun fr => by kernel_rfl) ?_
 intro fr H
 refine at_step (v := .int .i64 p0.groups_) (h1 := h) [(0, .ptr (some (bp0, 0))), (5, .ptr (some (bp0, 0))), (8, .int .i64 p0.groups_)] H (fun fr => by kernel_rfl) (fun fr => .of (s_ld (by kernel_rfl) (A.ld1 0 rfl (o := 5) rfl))) ?_
 intro fr t H
 refine at_seg [(4, []), (5, []), (6, [])] [(0, .ptr (some (bp0, 0))), (9, .int .i64 (IntKind.i64.wrap (p0.groups_ + (1 : Int)))), (11, .ptr (some (bp0, 5)))] H (noU_all rfl) (fun fr => by kernel_rfl) ?_
 intro fr H
 obtain ⟨h1, hx, A1⟩ := A.st 0 rfl (o := 5) (new := [.int .i64 (IntKind.i64.wrap (p0.groups_ + (1 : Int)))]) (ds := [.str p0.s_, .int .i64 p0.at_, .bool p0.extended_, rowV rp0_3 p0.t_.Nodes.length, .int .i64 p0.t_.Root, .int .i64 (IntKind.i64.wrap (p0.groups_ + (1 : Int))), .int .i64 p0.depth_, .int .i64 p0.wrong_, .bool p0.full_]) (Nat.le_of_ble_eq_true rfl) rfl rfl
 replace A : HH g h1 [.obj bp0 (.cells none 2 [.str p0.s_, .int .i64 p0.at_, .bool p0.extended_, rowV rp0_3 p0.t_.Nodes.length, .int .i64 p0.t_.Root, .int .i64 (IntKind.i64.wrap (p0.groups_ + (1 : Int))), .int .i64 p0.depth_, .int .i64 p0.wrong_, .bool p0.full_]), .lst rp0_3 45 (lst e_S_tree_Node p0.t_.Nodes)] F := A1
 refine at_step (v := .tuple []) (h1 := h1) [(0, .ptr (some (bp0, 0)))] H (fun fr => by kernel_rfl) (fun fr => .of (s_st (by kernel_rfl) rfl hx)) ?_
 intro fr t H
 refine at_nil ?_
 show AW cfg 50 g (right (right (bodyC cfg.P 50))) fr h1 _
 refine aw_seq (by kernel_rfl) ?_
 refine aw_reg (id := 2) (n := 5) [(0, []), (1, []), (2, []), (3, []), (4, [])] (by kernel_rfl) (by kernel_rfl) ?_
 refine at_seg [(0, []), (1, []), (2, [])] [(0, .ptr (some (bp0, 0))), (14, .ptr (some (bp0, 5)))] H (noU_all rfl) (fun fr => by kernel_rfl) ?_
 intro fr H
 refine at_step (v := .int .i64 (IntKind.i64.wrap (p0.groups_ + (1 : Int)))) (h1 := h1) [(0, .ptr (some (bp0, 0))), (15, .int .i64 (IntKind.i64.wrap (p0.groups_ + (1 : Int))))] H (fun fr => by kernel_rfl) (fun fr => .of (s_ld (by kernel_rfl) (A.ld1 0 rfl (o := 5) rfl))) ?_
 intro fr t H
 refine at_seg [(4, [])] [(0, .ptr (some (bp0, 0))), (3, .int .i64 (IntKind.i64.wrap (p0.groups_ + (1 : Int))))] H (noU_all rfl) (fun fr => by kernel_rfl) ?_
 intro fr H
 refine at_nil ?_
 show AW cfg 50 g (right (right (right (bodyC cfg.P 50)))) fr h1 _
 refine aw_seq (by kernel_rfl) ?_
 obtain ⟨o1, ho, hm⟩ := bind_some hm
 refine aw_mono (Q' := fun e fr' h' => (∃ (x1 : Bool), e = .normal ∧ x1 = o1 ∧ Has fr' 57 [(0, .ptr (some (bp0, 0))), (3, .int .i64 (IntKind.i64.wrap (p0.groups_ + (1 : Int))))] ∧ HH g h' [.obj bp0 (.cells none 2 [.str p0.s_, .int .i64 p0.at_, .bool p0.extended_, rowV rp0_3 p0.t_.Nodes.length, .int .i64 p0.t_.Root, .int .i64 (IntKind.i64.wrap (p0.groups_ + (1 : Int))), .int .i64 p0.depth_, .int .i64 p0.wrong_, .bool x1]), .lst rp0_3 45 (lst e_S_tree_Node p0.t_.Nodes)] F) ∨ False) ?_ ?_
 ·replace hm := ho
  clear ho
  refine aw_seq (by kernel_rfl) ?_
  refine aw_reg (id := 3) (n := 2) [(0, []), (1, [])] (by kernel_rfl) (by kernel_rfl) ?_
  refine at_seg [(0, []), (1, [])] [(0, .ptr (some (bp0, 0))), (3, .int .i64 (IntKind.i64.wrap (p0.groups_ + (1 : Int)))), (17, .bool (decide ((IntKind.i64.wrap (p0.groups_ + (1 : Int))) > (1024 : Int))))] H (noU_all rfl) (fun fr => by kernel_rfl) ?_
  intro fr H
  refine at_nil ?_
  show AW cfg 50 g (right (left (right (right (right (bodyC cfg.P 50)))))) fr h1 _
  rcases iteB_some hm with ⟨hb, hm⟩ | ⟨hb, hm⟩
  ·replace H := H.know 17 hb (by kernel_rfl)
   refine aw_true (x := .tmp 17) (by kernel_rfl) H (fun fr => by kernel_rfl) ?_
   refine aw_reg (id := 4) (n := 4) [(0, []), (1, []), (2, []), (3, [])] (by kernel_rfl) (by kernel_rfl) ?_
   refine at_seg [(0, []), (1, []), (2, [])] [(0, .ptr (some (bp0, 0))), (3, .int .i64 (IntKind.i64.wrap (p0.groups_ + (1 : Int)))), (20, .ptr (some (bp0, 8)))] H (noU_all rfl) (fun fr => by kernel_rfl) ?_
   intro fr H
   obtain ⟨h2, hx, A1⟩ := A.st 0 rfl (o := 8) (new := [.bool true]) (ds := [.str p0.s_, .int .i64 p0.at_, .bool p0.extended_, rowV rp0_3 p0.t_.Nodes.length, .int .i64 p0.t_.Root, .int .i64 (IntKind.i64.wrap (p0.groups_ + (1 : Int))), .int .i64 p0.depth_, .int .i64 p0.wrong_, .bool true]) (Nat.le_of_ble_eq_true rfl) rfl rfl
   replace A : HH g h2 [.obj bp0 (.cells none 2 [.str p0.s_, .int .i64 p0.at_, .bool p0.extended_, rowV rp0_3 p0.t_.Nodes.length, .int .i64 p0.t_.Root, .int .i64 (IntKind.i64.wrap (p0.groups_ + (1 : Int))), .int .i64 p0.depth_, .int .i64 p0.wrong_, .bool true]), .lst rp0_3 45 (lst e_S_tree_Node p0.t_.Nodes)] F := A1
   refine at_step (v := .tuple []) (h1 := h2) [(0, .ptr (some (bp0, 0))), (3, .int .i64 (IntKind.i64.wrap (p0.groups_ + (1 : Int))))] H (fun fr => by kernel_rfl) (fun fr => .of (s_st (by kernel_rfl) rfl hx)) ?_
   intro fr t H
   refine at_nil ?_
   exact Or.inl ⟨true, rfl, Option.some.inj hm, H.less _ (fun fr => by kernel_rfl), A⟩
  ·replace H := H.know 17 hb (by kernel_rfl)
   refine aw_false (x := .tmp 17) (by kernel_rfl) H (fun fr => by kernel_rfl) ?_
   refine aw_skip (by kernel_rfl) ?_
   exact Or.inl ⟨p0.full_, rfl, Option.some.inj hm, H.less _ (fun fr => by kernel_rfl), A⟩
 ·clear ho
  clear A
  intro e fr h3 hQ
  rcases hQ with ⟨x1, rfl, rfl, H, A⟩ | hF
  ·skip
   show AW cfg 50 g (right (right (right (right (bodyC cfg.P 50))))) fr h3 _
   refine aw_seq (by kernel_rfl) ?_
   refine aw_reg (id := 5) (n := 8) [(0, []), (1, []), (2, []), (3, []), (4, []), (5, []), (6, []), (7, [])] (by kernel_rfl) (by kernel_rfl) ?_
   refine at_seg [(0, []), (1, []), (2, [])] [(0, .ptr (some (bp0, 0))), (3, .int .i64 (IntKind.i64.wrap (p0.groups_ + (1 : Int)))), (21, .ptr (some (bp0, 0))), (23, .ptr (some (bp0, 6)))] H (noU_all rfl) (fun fr => by kernel_rfl) ?_
   intro fr H
   refine at_step (v := .int .i64 p0.depth_) (h1 := h3) [(0, .ptr (some (bp0, 0))), (3, .int .i64 (IntKind.i64.wrap (p0.groups_ + (1 : Int)))), (21, .ptr (some (bp0, 0))), (24, .int .i64 p0.depth_)] H (fun fr => by kernel_rfl) (fun fr => .of (s_ld (by kernel_rfl) (A.ld1 0 rfl (o := 6) rfl))) ?_
   intro fr t H
   refine at_seg [(4, []), (5, []), (6, [])] [(0, .ptr (some (bp0, 0))), (3, .int .i64 (IntKind.i64.wrap (p0.groups_ + (1 : Int)))), (25, .int .i64 (IntKind.i64.wrap (p0.depth_ + (1 : Int)))), (27, .ptr (some (bp0, 6)))] H (noU_all rfl) (fun fr => by kernel_rfl) ?_
   intro fr H
   obtain ⟨h4, hx, A1⟩ := A.st 0 rfl (o := 6) (new := [.int .i64 (IntKind.i64.wrap (p0.depth_ + (1 : Int)))]) (ds := [.str p0.s_, .int .i64 p0.at_, .bool p0.extended_, rowV rp0_3 p0.t_.Nodes.length, .int .i64 p0.t_.Root, .int .i64 (IntKind.i64.wrap (p0.groups_ + (1 : Int))), .int .i64 (IntKind.i64.wrap (p0.depth_ + (1 : Int))), .int .i64 p0.wrong_, .bool x1]) (Nat.le_of_ble_eq_true rfl) rfl rfl
   replace A : HH g h4 [.obj bp0 (.cells none 2 [.str p0.s_, .int .i64 p0.at_, .bool p0.extended_, rowV rp0_3 p0.t_.Nodes.length, .int .i64 p0.t_.Root, .int .i64 (IntKind.i64.wrap (p0.groups_ + (1 : Int))), .int .i64 (IntKind.i64.wrap (p0.depth_ + (1 : Int))), .int .i64 p0.wrong_, .bool x1]), .lst rp0_3 45 (lst e_S_tree_Node p0.t_.Nodes)] F := A1
   refine at_step (v := .tuple []) (h1 := h4) [(0, .ptr (some (bp0, 0))), (3, .int .i64 (IntKind.i64.wrap (p0.groups_ + (1 : Int))))] H (fun fr => by kernel_rfl) (fun fr => .of (s_st (by kernel_rfl) rfl hx)) ?_
   intro fr t H
   refine at_nil ?_
   show AW cfg 50 g (right (right (right (right (right (bodyC cfg.P 50)))))) fr h4 _
   refine aw_seq (by kernel_rfl) ?_
   refine aw_reg (id := 6) (n := 3) [(0, []), (1, []), (2, [])] (by kernel_rfl) (by kernel_rfl) ?_
   refine at_seg [(0, [])] [(0, .ptr (some (bp0, 0))), (3, .int .i64 (IntKind.i64.wrap (p0.groups_ + (1 : Int)))), (28, .ptr (some (bp0, 0)))] H (noU_all rfl) (fun fr => by kernel_rfl) ?_
   intro fr H
   have A1 := A.cut 2
   obtain ⟨⟨x2, x3, x4⟩, hx, hm⟩ := bind_some hm
   obtain ⟨v1, h5, hr, r1, rfl, A1⟩ := hS.ok_rex_walk_expression_sPO (av := [.ptr (some (bp0, 0))]) hx (by kernel_rfl) A1
   replace A : HH g h5 [.obj bp0 (.cells none 2 [.str x3.s_, .int .i64 x3.at_, .bool x3.extended_, rowV r1 x4.length, .int .i64 x3.t_.Root, .int .i64 x3.groups_, .int .i64 x3.depth_, .int .i64 x3.wrong_, .bool x3.full_]), .lst r1 45 (lst e_S_tree_Node x4)] F := A.glue0 (n := 2) A1
   refine at_step (v := .int .i64 x2) (h1 := h5) [(0, .ptr (some (bp0, 0))), (3, .int .i64 (IntKind.i64.wrap (p0.groups_ + (1 : Int)))), (29, .int .i64 x2)] H (fun fr => by kernel_rfl) (fun fr => Steps.call (by kernel_rfl) hr) ?_
   intro fr t H
   refine at_seg [(2, [])] [(0, .ptr (some (bp0, 0))), (3, .int .i64 (IntKind.i64.wrap (p0.groups_ + (1 : Int)))), (4, .int .i64 x2)] H (noU_all rfl) (fun fr => by kernel_rfl) ?_
   intro fr H
   refine at_nil ?_
   show AW cfg 50 g (right (right (right (right (right (right (bodyC cfg.P 50))))))) fr h5 _
   refine aw_seq (by kernel_rfl) ?_
   refine aw_reg (id := 7) (n := 8) [(0, []), (1, []), (2, []), (3, []), (4, []), (5, []), (6, []), (7, [])] (by kernel_rfl) (by kernel_rfl) ?_
   refine at_seg [(0, []), (1, []), (2, [])] [(0, .ptr (some (bp0, 0))), (3, .int .i64 (IntKind.i64.wrap (p0.groups_ + (1 : Int)))), (4, .int .i64 x2), (30, .ptr (some (bp0, 0))), (32, .ptr (some (bp0, 6)))] H (noU_all rfl) (fun fr => by kernel_rfl) ?_
   intro fr H
   refine at_step (v := .int .i64 x3.depth_) (h1 := h5) [(0, .ptr (some (bp0, 0))), (3, .int .i64 (IntKind.i64.wrap (p0.groups_ + (1 : Int)))), (4, .int .i64 x2), (30, .ptr (some (bp0, 0))), (33, .int .i64 x3.depth_)] H (fun fr => by kernel_rfl) (fun fr => .of (s_ld (by kernel_rfl) (A.ld1 0 rfl (o := 6) rfl))) ?_
   intro fr t H
   refine at_seg [(4, []), (5, []), (6, [])] [(0, .ptr (some (bp0, 0))), (3, .int .i64 (IntKind.i64.wrap (p0.groups_ + (1 : Int)))), (4, .int .i64 x2), (34, .int .i64 (IntKind.i64.wrap (x3.depth_ - (1 : Int)))), (36, .ptr (some (bp0, 6)))] H (noU_all rfl) (fun fr => by kernel_rfl) ?_
   intro fr H
   obtain ⟨h6, hx, A1⟩ := A.st 0 rfl (o := 6) (new := [.int .i64 (IntKind.i64.wrap (x3.depth_ - (1 : Int)))]) (ds := [.str x3.s_, .int .i64 x3.at_, .bool x3.extended_, rowV r1 x4.length, .int .i64 x3.t_.Root, .int .i64 x3.groups_, .int .i64 (IntKind.i64.wrap (x3.depth_ - (1 : Int))), .int .i64 x3.wrong_, .bool x3.full_]) (Nat.le_of_ble_eq_true rfl) rfl rfl
   replace A : HH g h6 [.obj bp0 (.cells none 2 [.str x3.s_, .int .i64 x3.at_, .bool x3.extended_, rowV r1 x4.length, .int .i64 x3.t_.Root, .int .i64 x3.groups_, .int .i64 (IntKind.i64.wrap (x3.depth_ - (1 : Int))), .int .i64 x3.wrong_, .bool x3.full_]), .lst r1 45 (lst e_S_tree_Node x4)] F := A1
   refine at_step (v := .tuple []) (h1 := h6) [(0, .ptr (some (bp0, 0))), (3, .int .i64 (IntKind.i64.wrap (p0.groups_ + (1 : Int)))), (4, .int .i64 x2)] H (fun fr => by kernel_rfl) (fun fr => .of (s_st (by kernel_rfl) rfl hx)) ?_
   intro fr t H
   refine at_nil ?_
   show AW cfg 50 g (right (right (right (right (right (right (right (bodyC cfg.P 50)))))))) fr h6 _
   refine aw_seq (by kernel_rfl) ?_
   obtain ⟨o2, ho, hm⟩ := bind_some hm
   refine aw_mono (Q' := fun e fr' h' => (∃ (x5 : List UInt8) (x6 : Int) (x7 : Bool) (x8 : Int) (x9 : Int) (x10 : Int) (x11 : Int) (x12 : Bool), e = .normal ∧ (x5, x6, x7, x8, x9, x10, x11, x12) = o2 ∧ Has fr' 57 [(0, .ptr (some (bp0, 0))), (3, .int .i64 (IntKind.i64.wrap (p0.groups_ + (1 : Int)))), (4, .int .i64 x2)] ∧ HH g h' [.obj bp0 (.cells none 2 [.str x5, .int .i64 x6, .bool x7, rowV r1 x4.length, .int .i64 x8, .int .i64 x9, .int .i64 x10, .int .i64 x11, .bool x12]), .lst r1 45 (lst e_S_tree_Node x4)] F) ∨ False) ?_ ?_
   ·replace hm := ho
    clear ho
    refine aw_seq (by kernel_rfl) ?_
    refine aw_reg (id := 8) (n := 7) [(0, []), (1, []), (2, []), (3, []), (4, []), (5, []), (6, [])] (by kernel_rfl) (by kernel_rfl) ?_
    refine at_seg [(0, [])] [(0, .ptr (some (bp0, 0))), (3, .int .i64 (IntKind.i64.wrap (p0.groups_ + (1 : Int)))), (4, .int .i64 x2), (37, .ptr (some (bp0, 0)))] H (noU_all rfl) (fun fr => by kernel_rfl) ?_
    intro fr H
    have A1 := A.cut 2
    obtain ⟨x13, hx, hm⟩ := bind_some hm
    obtain ⟨v1, h7, hr, rfl, A1⟩ := ok_rex_walk_ok_sPO (av := [.ptr (some (bp0, 0))]) hx (by kernel_rfl) A1
    replace A : HH g h7 [.obj bp0 (.cells none 2 [.str x3.s_, .int .i64 x3.at_, .bool x3.extended_, rowV r1 x4.length, .int .i64 x3.t_.Root, .int .i64 x3.groups_, .int .i64 (IntKind.i64.wrap (x3.depth_ - (1 : Int))), .int .i64 x3.wrong_, .bool x3.full_]), .lst r1 45 (lst e_S_tree_Node x4)] F := A.glue0 (n := 2) A1
    refine at_step (v := .bool x13) (h1 := h7) [(0, .ptr (some (bp0, 0))), (3, .int .i64 (IntKind.i64.wrap (p0.groups_ + (1 : Int)))), (4, .int .i64 x2), (38, .bool x13)] H (fun fr => by kernel_rfl) (fun fr => Steps.call (by kernel_rfl) hr) ?_
    intro fr t H
    refine at_seg [(2, [])] [(0, .ptr (some (bp0, 0))), (3, .int .i64 (IntKind.i64.wrap (p0.groups_ + (1 : Int)))), (4, .int .i64 x2), (39, .bool x13)] H (noU_all rfl) (fun fr => by kernel_rfl) ?_
    intro fr H
    obtain ⟨⟨x14, x15, x16, x17, x18, x19, x20, x21, x22⟩, ho, hm⟩ := bind_some hm
    refine at_cut [(3, []), (4, []), (5, []), (6, [])] (fun fr' h' => Has fr' 57 [(0, .ptr (some (bp0, 0))), (3, .int .i64 (IntKind.i64.wrap (p0.groups_ + (1 : Int)))), (4, .int .i64 x2), (43, .bool x22)] ∧ HH g h' [.obj bp0 (.cells none 2 [.str x14, .int .i64 x15, .bool x16, rowV r1 x4.length, .int .i64 x17, .int .i64 x18, .int .i64 x19, .int .i64 x20, .bool x21]), .lst r1 45 (lst e_S_tree_Node x4)] F) ?_ ?_
    ·rcases iteB_some ho with ⟨hb, hm⟩ | ⟨hb, hm⟩
     ·replace H := H.know 39 hb (by kernel_rfl)
      refine at_seg [(3, [])] [(0, .ptr (some (bp0, 0))), (3, .int .i64 (IntKind.i64.wrap (p0.groups_ + (1 : Int)))), (4, .int .i64 x2), (39, .bool true), (40, .ptr (some (bp0, 0)))] H (noU_all rfl) (fun fr => by kernel_rfl) ?_
      intro fr H
      have A1 := A.cut 2
      obtain ⟨⟨x23, x24⟩, hx, hm⟩ := bind_some hm
      obtain ⟨v1, h9, hr, rfl, A1⟩ := ok_rex_walk_next_sPOS (av := [.ptr (some (bp0, 0)), .str ([41] : List UInt8)]) hx (by kernel_rfl) A1
      replace A : HH g h9 [.obj bp0 (.cells none 2 [.str x24.s_, .int .i64 x24.at_, .bool x24.extended_, rowV r1 x4.length, .int .i64 x24.t_.Root, .int .i64 x24.groups_, .int .i64 x24.depth_, .int .i64 x24.wrong_, .bool x24.full_]), .lst r1 45 (lst e_S_tree_Node x4)] F := A.glue0 (n := 2) A1
      refine at_step (v := .bool x23) (h1 := h9) [(0, .ptr (some (bp0, 0))), (3, .int .i64 (IntKind.i64.wrap (p0.groups_ + (1 : Int)))), (4, .int .i64 x2), (39, .bool true), (41, .bool x23)] H (fun fr => by kernel_rfl) (fun fr => Steps.call (by kernel_rfl) hr) ?_
      intro fr t H
      refine at_seg [(5, []), (6, [])] [(0, .ptr (some (bp0, 0))), (3, .int .i64 (IntKind.i64.wrap (p0.groups_ + (1 : Int)))), (4, .int .i64 x2), (43, .bool (!x23))] H (noU_all rfl) (fun fr => by kernel_rfl) ?_
      intro fr H
      have e0 := Option.some.inj hm
      obtain ⟨e1, f1⟩ := Prod.mk.inj e0
      obtain ⟨e2, f2⟩ := Prod.mk.inj f1
      obtain ⟨e3, f3⟩ := Prod.mk.inj f2
      obtain ⟨e4, f4⟩ := Prod.mk.inj f3
      obtain ⟨e5, f5⟩ := Prod.mk.inj f4
      obtain ⟨e6, f6⟩ := Prod.mk.inj f5
      obtain ⟨e7, f7⟩ := Prod.mk.inj f6
      obtain ⟨e8, f8⟩ := Prod.mk.inj f7
      subst e1
      subst e2
      subst e3
      subst e4
      subst e5
      subst e6
      subst e7
      subst e8
      subst f8
      exact at_nil ⟨H.less _ (fun fr => by kernel_rfl), A⟩
     ·replace H := H.know 39 hb (by kernel_rfl)
      refine at_seg [(3, []), (4, []), (5, []), (6, [])] [(0, .ptr (some (bp0, 0))), (3, .int .i64 (IntKind.i64.wrap (p0.groups_ + (1 : Int)))), (4, .int .i64 x2), (43, .bool false)] H (noU_all rfl) (fun fr => by kernel_rfl) ?_
      intro fr H
      have e0 := Option.some.inj hm
      obtain ⟨e1, f1⟩ := Prod.mk.inj e0
      obtain ⟨e2, f2⟩ := Prod.mk.inj f1
      obtain ⟨e3, f3⟩ := Prod.mk.inj f2
      obtain ⟨e4, f4⟩ := Prod.mk.inj f3
      obtain ⟨e5, f5⟩ := Prod.mk.inj f4
      obtain ⟨e6, f6⟩ := Prod.mk.inj f5
      obtain ⟨e7, f7⟩ := Prod.mk.inj f6
      obtain ⟨e8, f8⟩ := Prod.mk.inj f7
      subst e1
      subst e2
      subst e3
      subst e4
      subst e5
      subst e6
      subst e7
      subst e8
      subst f8
      exact at_nil ⟨H.less _ (fun fr => by kernel_rfl), A⟩
    ·clear A
     intro t fr h8 hK
     obtain ⟨H, A⟩ := hK
     refine at_nil ?_
     show AW cfg 50 g (right (left (right (right (right (right (right (right (right (bodyC cfg.P 50)))))))))) fr h8 _
     rcases iteB_some hm with ⟨hb, hm⟩ | ⟨hb, hm⟩
     ·replace H := H.know 43 hb (by kernel_rfl)
      refine aw_true (x := .tmp 43) (by kernel_rfl) H (fun fr => by kernel_rfl) ?_
      refine aw_reg (id := 9) (n := 7) [(0, []), (1, []), (2, []), (3, []), (4, []), (5, []), (6, [])] (by kernel_rfl) (by kernel_rfl) ?_
      refine at_seg [(0, []), (1, []), (2, []), (3, [])] [(0, .ptr (some (bp0, 0))), (3, .int .i64 (IntKind.i64.wrap (p0.groups_ + (1 : Int)))), (4, .int .i64 x2), (44, .ptr (some (bp0, 0))), (47, .ptr (some (bp0, 0)))] H (noU_all rfl) (fun fr => by kernel_rfl) ?_
      intro fr H
      refine at_step (v := .str x14) (h1 := h8) [(0, .ptr (some (bp0, 0))), (3, .int .i64 (IntKind.i64.wrap (p0.groups_ + (1 : Int)))), (4, .int .i64 x2), (44, .ptr (some (bp0, 0))), (48, .str x14)] H (fun fr => by kernel_rfl) (fun fr => .of (s_ld (by kernel_rfl) (A.ld1 0 rfl (o := 0) rfl))) ?_
      intro fr t H
      refine at_seg [(5, [])] [(0, .ptr (some (bp0, 0))), (3, .int .i64 (IntKind.i64.wrap (p0.groups_ + (1 : Int)))), (4, .int .i64 x2), (44, .ptr (some (bp0, 0))), (49, .int .i64 (x14.length : Int))] H (noU_all rfl) (fun fr => by kernel_rfl) ?_
      intro fr H
      have A1 := A.cut 2
      obtain ⟨x25, hx, hm⟩ := bind_some hm
      obtain ⟨v1, h10, hr, rfl, A1⟩ := ok_rex_walk_fail_sPOI (av := [.ptr (some (bp0, 0)), .int .i64 (x14.length : Int)]) hx (by kernel_rfl) A1
      replace A : HH g h10 [.obj bp0 (.cells none 2 [.str x25.s_, .int .i64 x25.at_, .bool x25.extended_, rowV r1 x4.length, .int .i64 x25.t_.Root, .int .i64 x25.groups_, .int .i64 x25.depth_, .int .i64 x25.wrong_, .bool x25.full_]), .lst r1 45 (lst e_S_tree_Node x4)] F := A.glue0 (n := 2) A1
      refine at_step (v := .tuple []) (h1 := h10) [(0, .ptr (some (bp0, 0))), (3, .int .i64 (IntKind.i64.wrap (p0.groups_ + (1 : Int)))), (4, .int .i64 x2)] H (fun fr => by kernel_rfl) (fun fr => Steps.call (by kernel_rfl) hr) ?_
      intro fr t H
      refine at_nil ?_
      exact Or.inl ⟨x25.s_, x25.at_, x25.extended_, x25.t_.Root, x25.groups_, x25.depth_, x25.wrong_, x25.full_, rfl, Option.some.inj hm, H.less _ (fun fr => by kernel_rfl), A⟩
     ·replace H := H.know 43 hb (by kernel_rfl)
      refine aw_false (x := .tmp 43) (by kernel_rfl) H (fun fr => by kernel_rfl) ?_
      refine aw_skip (by kernel_rfl) ?_
      exact Or.inl ⟨x14, x15, x16, x17, x18, x19, x20, x21, rfl, Option.some.inj hm, H.less _ (fun fr => by kernel_rfl), A⟩
   ·clear ho
    clear A
    intro e fr h11 hQ
    rcases hQ with ⟨x5, x6, x7, x8, x9, x10, x11, x12, rfl, rfl, H, A⟩ | hF
    ·skip
     show AW cfg 50 g (right (right (right (right (right (right (right (right (bodyC cfg.P 50))))))))) fr h11 _
     refine aw_seq (by kernel_rfl) ?_
     refine aw_reg (id := 10) (n := 7) [(0, []), (1, []), (2, []), (3, []), (4, []), (5, []), (6, [])] (by kernel_rfl) (by kernel_rfl) ?_
     refine at_seg [(0, []), (1, []), (2, []), (3, []), (4, [])] [(51, .ptr (some (bp0, 0))), (55, .agg [.int .i64 (5 : Int), .int .i64 x2, .int .i64 (0 : Int), .int .i64 (0 : Int), .int .i64 (0 : Int), .int .i64 (mn (IntKind.i64.wrap (p0.groups_ + (1 : Int))) (1024 : Int)), .int .u64 (0 : Int), .int .u64 (0 : Int), .int .u64 (0 : Int), .int .u64 (0 : Int)])] H (noU_all rfl) (fun fr => by kernel_rfl) ?_
     intro fr H
     have A1 := A.cut 2
     obtain ⟨⟨x26, x27, x28⟩, hx, hm⟩ := bind_some hm
     obtain ⟨v1, h12, hr, r2, rfl, A1⟩ := ok_rex_walk_add_sPOR (av := [.ptr (some (bp0, 0)), .agg [.int .i64 (5 : Int), .int .i64 x2, .int .i64 (0 : Int), .int .i64 (0 : Int), .int .i64 (0 : Int), .int .i64 (mn (IntKind.i64.wrap (p0.groups_ + (1 : Int))) (1024 : Int)), .int .u64 (0 : Int), .int .u64 (0 : Int), .int .u64 (0 : Int), .int .u64 (0 : Int)]]) hx (by kernel_rfl) A1
     replace A : HH g h12 [.obj bp0 (.cells none 2 [.str x27.s_, .int .i64 x27.at_, .bool x27.extended_, rowV r2 x28.length, .int .i64 x27.t_.Root, .int .i64 x27.groups_, .int .i64 x27.depth_, .int .i64 x27.wrong_, .bool x27.full_]), .lst r2 45 (lst e_S_tree_Node x28)] F := A.glue0 (n := 2) A1
     refine at_step (v := .int .i64 x26) (h1 := h12) [(56, .int .i64 x26)] H (fun fr => by kernel_rfl) (fun fr => Steps.call (by kernel_rfl) hr) ?_
     intro fr t H
     refine at_seg [(6, [])] [(2, .int .i64 x26)] H (noU_all rfl) (fun fr => by kernel_rfl) ?_
     intro fr H
     refine at_nil ?_
     show AW cfg 50 g (right (right (right (right (right (right (right (right (right (bodyC cfg.P 50)))))))))) fr h12 _
     refine aw_ret (by kernel_rfl) ?_
     have e0 := Option.some.inj hm
     obtain ⟨y0, z0⟩ := Prod.mk.inj e0
     obtain ⟨y1, z1⟩ := Prod.mk.inj z0
     subst y0
     subst y1
     subst z1
     refine ⟨.inl rfl, .int .i64 x26, resH H (fun fr => by kernel_rfl), ?_⟩
     exact ⟨r2, rfl, A⟩
    ·exact hF.elim
  ·exact hF.elim
/-! ### (*boulter/rex.walk).expression -/
noncomputable def M_rex_walk_expression_sPO_L0 (S : SC_rex_walk_group_sPO) (s : (List Int) × (List UInt8) × Int × Bool × Int × Int × Int × Int × Bool × (List S_tree_Node)) : Option (((List Int) × (List UInt8) × Int × Bool × Int × Int × Int × Int × Bool × (List S_tree_Node)) ⊕ (((List Int) × (List UInt8) × Int × Bool × Int × Int × Int × Int × Bool × (List S_tree_Node)))) :=
 match s with
 | (x1, x2, x3, x4, x5, x6, x7, x8, x9, x10) => (S.M_rex_walk_branch_sPO (⟨x2, x3, x4, (⟨x10, x5⟩ : S_tree_Tree), x6, x7, x8, x9⟩ : S_rex_walk)).bind fun (x21, x22, x23) => need (okN 8 (x1.length + ([x21] : List Int).length)) <| (M_rex_walk_ok_sPO (⟨x22.s_, x22.at_, x22.extended_, (⟨x23, x22.t_.Root⟩ : S_tree_Tree), x22.groups_, x22.depth_, x22.wrong_, x22.full_⟩ : S_rex_walk)).bind fun x24 => (iteB (!x24) (some (x22.s_, x22.at_, x22.extended_, x22.t_.Root, x22.groups_, x22.depth_, x22.wrong_, x22.full_, true)) ((M_rex_walk_next_sPOS (⟨x22.s_, x22.at_, x22.extended_, (⟨x23, x22.t_.Root⟩ : S_tree_Tree), x22.groups_, x22.depth_, x22.wrong_, x22.full_⟩ : S_rex_walk) ([124] : List UInt8)).bind fun (x34, x35) => some (x35.s_, x35.at_, x35.extended_, x35.t_.Root, x35.groups_, x35.depth_, x35.wrong_, x35.full_, !x34)) : Option ((List UInt8) × Int × Bool × Int × Int × Int × Int × Bool × Bool)).bind fun (x25, x26, x27, x28, x29, x30, x31, x32, x33) => iteB x33 (some (.inr ((x1 ++ ([x21] : List Int)), x25, x26, x27, x28, x29, x30, x31, x32, x23))) (some (.inl ((x1 ++ ([x21] : List Int)), x25, x26, x27, x28, x29, x30, x31, x32, x23)))
noncomputable def B_rex_walk_expression_sPO (S : SC_rex_walk_group_sPO) (p0 : S_rex_walk) : Option (Int × S_rex_walk × (List S_tree_Node)) :=
 (loop (M_rex_walk_expression_sPO_L0 S) (([] : List Int), p0.s_, p0.at_, p0.extended_, p0.t_.Root, p0.groups_, p0.depth_, p0.wrong_, p0.full_, p0.t_.Nodes)).bind fun (x11, x12, x13, x14, x15, x16, x17, x18, x19, x20) => (M_rex_walk_nest_sPOIO (⟨x12, x13, x14, (⟨x20, x15⟩ : S_tree_Tree), x16, x17, x18, x19⟩ : S_rex_walk) (3 : Int) x11).bind fun (x36, x37, x38) => some (x36, (⟨x37.s_, x37.at_, x37.extended_, (⟨x38, x37.t_.Root⟩ : S_tree_Tree), x37.groups_, x37.depth_, x37.wrong_, x37.full_⟩ : S_rex_walk), x38)
theorem okB_rex_walk_expression_sPO {S : SC_rex_walk_group_sPO} (hS : OkSC_rex_walk_group_sPO S) {g : Gd} {h : AHeap} {F : List Ck} {p0 : S_rex_walk} {bp0 : Nat} {rp0_3 : Option Nat} {q0 : Int} {u0 : S_rex_walk} {u1 : List S_tree_Node} {av : List AVal} (hm : B_rex_walk_expression_sPO S p0 = some (q0, u0, u1)) (hc : canL (cfg.still 12) av = [.ptr (some (bp0, 0))]) (A : HH g h [.obj bp0 (.cells none 2 [.str p0.s_, .int .i64 p0.at_, .bool p0.extended_, rowV rp0_3 p0.t_.Nodes.length, .int .i64 p0.t_.Root, .int .i64 p0.groups_, .int .i64 p0.depth_, .int .i64 p0.wrong_, .bool p0.full_]), .lst rp0_3 45 (lst e_S_tree_Node p0.t_.Nodes)] F) : ∃ v h', Runs cfg g h 12 av v h' ∧ ∃ (r'1 : Option Nat), v = .int .i64 q0 ∧ HH g h' [.obj bp0 (.cells none 2 [.str u0.s_, .int .i64 u0.at_, .bool u0.extended_, rowV r'1 u1.length, .int .i64 u0.t_.Root, .int .i64 u0.groups_, .int .i64 u0.depth_, .int .i64 u0.wrong_, .bool u0.full_]), .lst r'1 45 (lst e_S_tree_Node u1)] F := by
 refine runsQ1 (n := 20) (rs := [.tmp 2]) (by kernel_rfl) hc (by kernel_rfl) ?_
 clear hc
 unfold B_rex_walk_expression_sPO at hm
 refine start (n := 20) [(0, .ptr (some (bp0, 0)))] (by kernel_rfl) (by kernel_rfl) ?_
 intro fr H
 refine aw_seq (by kernel_rfl) ?_
 refine aw_reg (id := 0) (n := 1) [(0, [])] (by kernel_rfl) (by kernel_rfl) ?_
 refine at_seg [(0, [])] [(0, .ptr (some (bp0, 0)))] H (noU_all rfl) (fun fr => by kernel_rfl) ?_
 intro fr H
 refine at_nil ?_
 show AW cfg 12 g (right (bodyC cfg.P 12)) fr h _
 refine aw_seq (by kernel_rfl) ?_
 refine aw_reg (id := 1) (n := 1) [(0, [])] (by kernel_rfl) (by kernel_rfl) ?_
 refine at_seg [(0, [])] [(0, .ptr (some (bp0, 0))), (3, .slice none 0)] H (noU_all rfl) (fun fr => by kernel_rfl) ?_
 intro fr H
 refine at_nil ?_
 show AW cfg 12 g (right (right (bodyC cfg.P 12))) fr h _
 refine aw_seq (by kernel_rfl) ?_
 refine aw_block (id := 0) (by kernel_rfl) ?_
 replace A : HH g h [.lst none 3 (lst (eI .i64) ([] : List Int)), .obj bp0 (.cells none 2 [.str p0.s_, .int .i64 p0.at_, .bool p0.extended_, rowV rp0_3 p0.t_.Nodes.length, .int .i64 p0.t_.Root, .int .i64 p0.groups_, .int .i64 p0.depth_, .int .i64 p0.wrong_, .bool p0.full_]), .lst rp0_3 45 (lst e_S_tree_Node p0.t_.Nodes)] F := A.nilL 3
 obtain ⟨o1, ho, hm⟩ := bind_some hm
 refine aw_mono (Q' := fun e fr' h' => (∃ (x11 : List Int) (x12 : List UInt8) (x13 : Int) (x14 : Bool) (x15 : Int) (x16 : Int) (x17 : Int) (x18 : Int) (x19 : Bool) (x20 : List S_tree_Node), e = .exit 0 ∧ (x11, x12, x13, x14, x15, x16, x17, x18, x19, x20) = o1 ∧ ∃ (r3 : Option Nat) (r4 : Option Nat), Has fr' 20 [(0, .ptr (some (bp0, 0))), (3, rowV r3 x11.length)] ∧ HH g h' [.lst r3 3 (lst (eI .i64) x11), .obj bp0 (.cells none 2 [.str x12, .int .i64 x13, .bool x14, rowV r4 x20.length, .int .i64 x15, .int .i64 x16, .int .i64 x17, .int .i64 x18, .bool x19]), .lst r4 45 (lst e_S_tree_Node x20)] F) ∨ False) ?_ ?_
 ·refine aw_loop (by kernel_rfl) (fun (s : (List Int) × (List UInt8) × Int × Bool × Int × Int × Int × Int × Bool × (List S_tree_Node)) fr' h' => ∃ (x1 : List Int) (x2 : List UInt8) (x3 : Int) (x4 : Bool) (x5 : Int) (x6 : Int) (x7 : Int) (x8 : Int) (x9 : Bool) (x10 : List S_tree_Node), (x1, x2, x3, x4, x5, x6, x7, x8, x9, x10) = s ∧ ∃ (r1 : Option Nat) (r2 : Option Nat), Has fr' 20 [(0, .ptr (some (bp0, 0))), (3, rowV r1 x1.length)] ∧ HH g h' [.lst r1 3 (lst (eI .i64) x1), .obj bp0 (.cells none 2 [.str x2, .int .i64 x3, .bool x4, rowV r2 x10.length, .int .i64 x5, .int .i64 x6, .int .i64 x7, .int .i64 x8, .bool x9]), .lst r2 45 (lst e_S_tree_Node x10)] F) ho ⟨([] : List Int), p0.s_, p0.at_, p0.extended_, p0.t_.Root, p0.groups_, p0.depth_, p0.wrong_, p0.full_, p0.t_.Nodes, rfl, none, rp0_3, H.less _ (fun fr => by kernel_rfl), A⟩ ?_
  clear ho hm H A
  intro s q fr h1 hI hm
  obtain ⟨x1, x2, x3, x4, x5, x6, x7, x8, x9, x10, rfl, r1, r2, H, A⟩ := hI
  unfold M_rex_walk_expression_sPO_L0 at hm
  refine aw_block (id := 1) (by kernel_rfl) ?_
  refine aw_seq (by kernel_rfl) ?_
  refine aw_reg (id := 2) (n := 6) [(0, []), (1, []), (2, []), (3, []), (4, []), (5, [])] (by kernel_rfl) (by kernel_rfl) ?_
  refine at_seg [(0, []), (1, [])] [(0, .ptr (some (bp0, 0))), (4, rowV r1 x1.length), (5, .ptr (some (bp0, 0)))] H (noU_all rfl) (fun fr => by kernel_rfl) ?_
  intro fr H
  replace A : HH g h1 [.obj bp0 (.cells none 2 [.str x2, .int .i64 x3, .bool x4, rowV r2 x10.length, .int .i64 x5, .int .i64 x6, .int .i64 x7, .int .i64 x8, .bool x9]), .lst r2 45 (lst e_S_tree_Node x10), .lst r1 3 (lst (eI .i64) x1)] F := ((A.front 2 rfl).front 2 rfl)
  have A1 := A.cut 2
  obtain ⟨⟨x21, x22, x23⟩, hx, hm⟩ := bind_some hm
  obtain ⟨v1, h2, hr, r5, rfl, A1⟩ := hS.ok_rex_walk_branch_sPO (av := [.ptr (some (bp0, 0))]) hx (by kernel_rfl) A1
  replace A : HH g h2 [.obj bp0 (.cells none 2 [.str x22.s_, .int .i64 x22.at_, .bool x22.extended_, rowV r5 x23.length, .int .i64 x22.t_.Root, .int .i64 x22.groups_, .int .i64 x22.depth_, .int .i64 x22.wrong_, .bool x22.full_]), .lst r5 45 (lst e_S_tree_Node x23), .lst r1 3 (lst (eI .i64) x1)] F := A.glue0 (n := 2) A1
  refine at_step (v := .int .i64 x21) (h1 := h2) [(0, .ptr (some (bp0, 0))), (4, rowV r1 x1.length), (6, .int .i64 x21)] H (fun fr => by kernel_rfl) (fun fr => Steps.call (by kernel_rfl) hr) ?_
  intro fr t H
  obtain ⟨h3, e1⟩ : ∃ x, x = h2.push (.cells (some 3) 2 [.int .i64 x21]) := ⟨_, rfl⟩
  replace A := (A.pushL _ _).to e1
  refine at_step (v := rowV (some h2.size) (([x21] : List Int).length)) (h1 := h3) [(0, .ptr (some (bp0, 0))), (4, rowV r1 x1.length), (7, rowV (some h2.size) (([x21] : List Int).length))] H (fun fr => by kernel_rfl) (fun fr => .of (s_n' (by kernel_rfl) (congrArg some e1.symm))) ?_
  intro fr t H
  obtain ⟨hb, hm⟩ := need_some hm
  obtain ⟨r6, h4, hx, A1⟩ := HH.appO (encI .i64) (by decide) A 3 (xs := x1) (ys := ([x21] : List Int)) rfl (row_first A 0 rfl (n := ([x21] : List Int).length) (z := 1) rfl (by decide)) rfl rfl hb
  replace A : HH g h4 [.lst (some h2.size) 3 ([.int .i64 x21]), .obj bp0 (.cells none 2 [.str x22.s_, .int .i64 x22.at_, .bool x22.extended_, rowV r5 x23.length, .int .i64 x22.t_.Root, .int .i64 x22.groups_, .int .i64 x22.depth_, .int .i64 x22.wrong_, .bool x22.full_]), .lst r5 45 (lst e_S_tree_Node x23), .lst r6 3 (lst (eI .i64) (x1 ++ ([x21] : List Int)))] F := A1
  replace A : HH g h4 [.obj bp0 (.cells none 2 [.str x22.s_, .int .i64 x22.at_, .bool x22.extended_, rowV r5 x23.length, .int .i64 x22.t_.Root, .int .i64 x22.groups_, .int .i64 x22.depth_, .int .i64 x22.wrong_, .bool x22.full_]), .lst r5 45 (lst e_S_tree_Node x23), .lst r6 3 (lst (eI .i64) (x1 ++ ([x21] : List Int)))] F := (HH.dropF (((A.front 3 rfl).front 3 rfl).front 3 rfl) 3)
  refine at_step (v := rowV r6 ((x1 ++ ([x21] : List Int)).length)) (h1 := h4) [(0, .ptr (some (bp0, 0))), (8, rowV r6 ((x1 ++ ([x21] : List Int)).length))] H (fun fr => by kernel_rfl) (fun fr => .of (s_app (s := rowS r1 x1.length) (by kernel_rfl) hx)) ?_
  intro fr t H
  refine at_seg [(5, [])] [(0, .ptr (some (bp0, 0))), (3, rowV r6 ((x1 ++ ([x21] : List Int)).length))] H (noU_all rfl) (fun fr => by kernel_rfl) ?_
  intro fr H
  refine at_nil ?_
  show AW cfg 12 g (right (left (left (left (left (right (right (bodyC cfg.P 12)))))))) fr h4 _
  refine aw_seq (by kernel_rfl) ?_
  refine aw_reg (id := 3) (n := 8) [(0, []), (1, []), (2, []), (3, []), (4, []), (5, []), (6, []), (7, [])] (by kernel_rfl) (by kernel_rfl) ?_
  refine at_seg [(0, [])] [(0, .ptr (some (bp0, 0))), (3, rowV r6 ((x1 ++ ([x21] : List Int)).length)), (9, .ptr (some (bp0, 0)))] H (noU_all rfl) (fun fr => by kernel_rfl) ?_
  intro fr H
  have A1 := A.cut 2
  obtain ⟨x24, hx, hm⟩ := bind_some hm
  obtain ⟨v1, h5, hr, rfl, A1⟩ := ok_rex_walk_ok_sPO (av := [.ptr (some (bp0, 0))]) hx (by kernel_rfl) A1
  replace A : HH g h5 [.obj bp0 (.cells none 2 [.str x22.s_, .int .i64 x22.at_, .bool x22.extended_, rowV r5 x23.length, .int .i64 x22.t_.Root, .int .i64 x22.groups_, .int .i64 x22.depth_, .int .i64 x22.wrong_, .bool x22.full_]), .lst r5 45 (lst e_S_tree_Node x23), .lst r6 3 (lst (eI .i64) (x1 ++ ([x21] : List Int)))] F := A.glue0 (n := 2) A1
  refine at_step (v := .bool x24) (h1 := h5) [(0, .ptr (some (bp0, 0))), (3, rowV r6 ((x1 ++ ([x21] : List Int)).length)), (10, .bool x24)] H (fun fr => by kernel_rfl) (fun fr => Steps.call (by kernel_rfl) hr) ?_
  intro fr t H
  refine at_seg [(2, []), (3, [])] [(0, .ptr (some (bp0, 0))), (3, rowV r6 ((x1 ++ ([x21] : List Int)).length)), (12, .bool (!x24))] H (noU_all rfl) (fun fr => by kernel_rfl) ?_
  intro fr H
  obtain ⟨⟨x25, x26, x27, x28, x29, x30, x31, x32, x33⟩, ho, hm⟩ := bind_some hm
  refine at_cut [(4, []), (5, []), (6, []), (7, [])] (fun fr' h' => Has fr' 20 [(0, .ptr (some (bp0, 0))), (3, rowV r6 ((x1 ++ ([x21] : List Int)).length)), (16, .bool x33)] ∧ HH g h' [.obj bp0 (.cells none 2 [.str x25, .int .i64 x26, .bool x27, rowV r5 x23.length, .int .i64 x28, .int .i64 x29, .int .i64 x30, .int .i64 x31, .bool x32]), .lst r5 45 (lst e_S_tree_Node x23), .lst r6 3 (lst (eI .i64) (x1 ++ ([x21] : List Int)))] F) ?_ ?_
  ·rcases iteB_some ho with ⟨hb, hm⟩ | ⟨hb, hm⟩
   ·replace H := H.know 12 hb (by kernel_rfl)
    refine at_seg [(4, []), (5, []), (6, []), (7, [])] [(0, .ptr (some (bp0, 0))), (3, rowV r6 ((x1 ++ ([x21] : List Int)).length)), (16, .bool true)] H (noU_all rfl) (fun fr => by kernel_rfl) ?_
    intro fr H
    have e0 := Option.some.inj hm
    obtain ⟨e1, f1⟩ := Prod.mk.inj e0
    obtain ⟨e2, f2⟩ := Prod.mk.inj f1
    obtain ⟨e3, f3⟩ := Prod.mk.inj f2
    obtain ⟨e4, f4⟩ := Prod.mk.inj f3
    obtain ⟨e5, f5⟩ := Prod.mk.inj f4
    obtain ⟨e6, f6⟩ := Prod.mk.inj f5
    obtain ⟨e7, f7⟩ := Prod.mk.inj f6
    obtain ⟨e8, f8⟩ := Prod.mk.inj f7
    subst e1
    subst e2
    subst e3
    subst e4
    subst e5
    subst e6
    subst e7
    subst e8
    subst f8
    exact at_nil ⟨H.less _ (fun fr => by kernel_rfl), A⟩
   ·replace H := H.know 12 hb (by kernel_rfl)
    refine at_seg [(4, [])] [(0, .ptr (some (bp0, 0))), (3, rowV r6 ((x1 ++ ([x21] : List Int)).length)), (12, .bool false), (13, .ptr (some (bp0, 0)))] H (noU_all rfl) (fun fr => by kernel_rfl) ?_
    intro fr H
    have A1 := A.cut 2
    obtain ⟨⟨x34, x35⟩, hx, hm⟩ := bind_some hm
    obtain ⟨v1, h7, hr, rfl, A1⟩ := ok_rex_walk_next_sPOS (av := [.ptr (some (bp0, 0)), .str ([124] : List UInt8)]) hx (by kernel_rfl) A1
    replace A : HH g h7 [.obj bp0 (.cells none 2 [.str x35.s_, .int .i64 x35.at_, .bool x35.extended_, rowV r5 x23.length, .int .i64 x35.t_.Root, .int .i64 x35.groups_, .int .i64 x35.depth_, .int .i64 x35.wrong_, .bool x35.full_]), .lst r5 45 (lst e_S_tree_Node x23), .lst r6 3 (lst (eI .i64) (x1 ++ ([x21] : List Int)))] F := A.glue0 (n := 2) A1
    refine at_step (v := .bool x34) (h1 := h7) [(0, .ptr (some (bp0, 0))), (3, rowV r6 ((x1 ++ ([x21] : List Int)).length)), (12, .bool false), (14, .bool x34)] H (fun fr => by kernel_rfl) (fun fr => Steps.call (by kernel_rfl) hr) ?_
    intro fr t H
    refine at_seg [(6, []), (7, [])] [(0, .ptr (some (bp0, 0))), (3, rowV r6 ((x1 ++ ([x21] : List Int)).length)), (16, .bool (!x34))] H (noU_all rfl) (fun fr => by kernel_rfl) ?_
    intro fr H
    have e0 := Option.some.inj hm
    obtain ⟨e1, f1⟩ := Prod.mk.inj e0
    obtain ⟨e2, f2⟩ := Prod.mk.inj f1
    obtain ⟨e3, f3⟩ := Prod.mk.inj f2
    obtain ⟨e4, f4⟩ := Prod.mk.inj f3
    obtain ⟨e5, f5⟩ := Prod.mk.inj f4
    obtain ⟨e6, f6⟩ := Prod.mk.inj f5
    obtain ⟨e7, f7⟩ := Prod.mk.inj f6
    obtain ⟨e8, f8⟩ := Prod.mk.inj f7
    subst e1
    subst e2
    subst e3
    subst e4
    subst e5
    subst e6
    subst e7
    subst e8
    subst f8
    exact at_nil ⟨H.less _ (fun fr => by kernel_rfl), A⟩
  ·clear A
   intro t fr h6 hK
   obtain ⟨H, A⟩ := hK
   refine at_nil ?_
   show AW cfg 12 g (right (right (left (left (left (left (right (right (bodyC cfg.P 12))))))))) fr h6 _
   rcases iteB_some hm with ⟨hb, hm⟩ | ⟨hb, hm⟩
   ·replace H := H.know 16 hb (by kernel_rfl)
    refine aw_true (x := .tmp 16) (by kernel_rfl) H (fun fr => by kernel_rfl) ?_
    refine aw_exit (i := 0) (by kernel_rfl) ?_
    replace A : HH g h6 [.lst r6 3 (lst (eI .i64) (x1 ++ ([x21] : List Int))), .obj bp0 (.cells none 2 [.str x25, .int .i64 x26, .bool x27, rowV r5 x23.length, .int .i64 x28, .int .i64 x29, .int .i64 x30, .int .i64 x31, .bool x32]), .lst r5 45 (lst e_S_tree_Node x23)] F := (((A.front 1 rfl).front 1 rfl).front 2 rfl)
    exact Exists.intro _ (And.intro (Option.some.inj hm).symm (fun e => Or.inl ⟨(x1 ++ ([x21] : List Int)), x25, x26, x27, x28, x29, x30, x31, x32, x23, rfl, e, r6, r5, H.less _ (fun fr => by kernel_rfl), A⟩))
   ·replace H := H.know 16 hb (by kernel_rfl)
    refine aw_false (x := .tmp 16) (by kernel_rfl) H (fun fr => by kernel_rfl) ?_
    refine aw_skip (by kernel_rfl) ?_
    replace A : HH g h6 [.lst r6 3 (lst (eI .i64) (x1 ++ ([x21] : List Int))), .obj bp0 (.cells none 2 [.str x25, .int .i64 x26, .bool x27, rowV r5 x23.length, .int .i64 x28, .int .i64 x29, .int .i64 x30, .int .i64 x31, .bool x32]), .lst r5 45 (lst e_S_tree_Node x23)] F := (((A.front 1 rfl).front 1 rfl).front 2 rfl)
    exact Exists.intro ((x1 ++ ([x21] : List Int)), x25, x26, x27, x28, x29, x30, x31, x32, x23) (And.intro (Option.some.inj hm).symm ⟨(x1 ++ ([x21] : List Int)), x25, x26, x27, x28, x29, x30, x31, x32, x23, rfl, r6, r5, H.less _ (fun fr => by kernel_rfl), A⟩)
 ·clear ho
  clear A
  intro e fr h8 hQ
  rcases hQ with ⟨x11, x12, x13, x14, x15, x16, x17, x18, x19, x20, rfl, rfl, r3, r4, H, A⟩ | hF
  ·skip
   show AW cfg 12 g (right (right (right (bodyC cfg.P 12)))) fr h8 _
   refine aw_seq (by kernel_rfl) ?_
   refine aw_reg (id := 4) (n := 4) [(0, []), (1, []), (2, []), (3, [])] (by kernel_rfl) (by kernel_rfl) ?_
   refine at_seg [(0, []), (1, [])] [(17, .ptr (some (bp0, 0))), (18, rowV r3 x11.length)] H (noU_all rfl) (fun fr => by kernel_rfl) ?_
   intro fr H
   replace A : HH g h8 [.obj bp0 (.cells none 2 [.str x12, .int .i64 x13, .bool x14, rowV r4 x20.length, .int .i64 x15, .int .i64 x16, .int .i64 x17, .int .i64 x18, .bool x19]), .lst r4 45 (lst e_S_tree_Node x20), .lst r3 3 (lst (eI .i64) x11)] F := (((A.front 0 rfl).front 2 rfl).front 2 rfl)
   have A1 := A.cut 3
   obtain ⟨⟨x36, x37, x38⟩, hx, hm⟩ := bind_some hm
   obtain ⟨v1, h9, hr, r7, rfl, A1⟩ := ok_rex_walk_nest_sPOIO (av := [.ptr (some (bp0, 0)), .int .i64 (3 : Int), rowV r3 x11.length]) hx (by kernel_rfl) A1
   replace A : HH g h9 [.obj bp0 (.cells none 2 [.str x37.s_, .int .i64 x37.at_, .bool x37.extended_, rowV r7 x38.length, .int .i64 x37.t_.Root, .int .i64 x37.groups_, .int .i64 x37.depth_, .int .i64 x37.wrong_, .bool x37.full_]), .lst r7 45 (lst e_S_tree_Node x38), .lst r3 3 (lst (eI .i64) x11)] F := A.glue0 (n := 3) A1
   refine at_step (v := .int .i64 x36) (h1 := h9) [(19, .int .i64 x36)] H (fun fr => by kernel_rfl) (fun fr => Steps.call (by kernel_rfl) hr) ?_
   intro fr t H
   refine at_seg [(3, [])] [(2, .int .i64 x36)] H (noU_all rfl) (fun fr => by kernel_rfl) ?_
   intro fr H
   refine at_nil ?_
   show AW cfg 12 g (right (right (right (right (bodyC cfg.P 12))))) fr h9 _
   refine aw_ret (by kernel_rfl) ?_
   have e0 := Option.some.inj hm
   obtain ⟨y0, z0⟩ := Prod.mk.inj e0
   obtain ⟨y1, z1⟩ := Prod.mk.inj z0
   subst y0
   subst y1
   subst z1
   refine ⟨.inl rfl, .int .i64 x36, resH H (fun fr => by kernel_rfl), ?_⟩
   replace A : HH g h9 [.obj bp0 (.cells none 2 [.str x37.s_, .int .i64 x37.at_, .bool x37.extended_, rowV r7 x38.length, .int .i64 x37.t_.Root, .int .i64 x37.groups_, .int .i64 x37.depth_, .int .i64 x37.wrong_, .bool x37.full_]), .lst r7 45 (lst e_S_tree_Node x38)] F := (HH.dropF ((A.front 1 rfl).front 1 rfl) 2)
   exact ⟨r7, rfl, A⟩
  ·exact hF.elim
/-! ### (*boulter/rex.walk).branch -/
noncomputable def M_rex_walk_branch_sPO_L0 (S : SC_rex_walk_group_sPO) (s : (List Int) × (List UInt8) × Int × Bool × Int × Int × Int × Int × Bool × (List S_tree_Node) × Bool) : Option (((List Int) × (List UInt8) × Int × Bool × Int × Int × Int × Int × Bool × (List S_tree_Node) × Bool) ⊕ (((List Int) × (List UInt8) × Int × Bool × Int × Int × Int × Int × Bool × (List S_tree_Node)))) :=
 match s with
 | (x1, x2, x3, x4, x5, x6, x7, x8, x9, x10, x11) => (M_rex_walk_ok_sPO (⟨x2, x3, x4, (⟨x10, x5⟩ : S_tree_Tree), x6, x7, x8, x9⟩ : S_rex_walk)).bind fun x22 => (iteB x22 ((M_rex_walk_closes_sPO (⟨x2, x3, x4, (⟨x10, x5⟩ : S_tree_Tree), x6, x7, x8, x9⟩ : S_rex_walk)).bind fun x24 => some (!x24)) (some false) : Option (Bool)).bind fun x23 => iteB x23 ((iteB (!x4) ((ixS x2 x3).bind fun x26 => some (x26 == (42 : Int))) (some false) : Option (Bool)).bind fun x25 => iteB (x25 && (((x1.length : Int) == (0 : Int)) || x11)) ((M_rex_walk_one_sPOI (⟨x2, IntKind.i64.wrap (x3 + (1 : Int)), x4, (⟨x10, x5⟩ : S_tree_Tree), x6, x7, x8, x9⟩ : S_rex_walk) (42 : Int)).bind fun (x27, x28, x29) => (M_rex_walk_repeats_sPOI (⟨x28.s_, x28.at_, x28.extended_, (⟨x29, x28.t_.Root⟩ : S_tree_Tree), x28.groups_, x28.depth_, x28.wrong_, x28.full_⟩ : S_rex_walk) x27).bind fun (x30, x31, x32) => need (okN 8 (x1.length + ([x30] : List Int).length)) <| some (.inl ((x1 ++ ([x30] : List Int)), x31.s_, x31.at_, x31.extended_, x31.t_.Root, x31.groups_, x31.depth_, x31.wrong_, x31.full_, x32, false))) ((iteB (!x4) ((ixS x2 x3).bind fun x34 => some (x34 == (94 : Int))) (some false) : Option (Bool)).bind fun x33 => iteB (x33 && ((x1.length : Int) == (0 : Int))) ((M_rex_walk_add_sPOR (⟨x2, IntKind.i64.wrap (x3 + (1 : Int)), x4, (⟨x10, x5⟩ : S_tree_Tree), x6, x7, x8, x9⟩ : S_rex_walk) (⟨(6 : Int), (0 : Int), (0 : Int), (0 : Int), (0 : Int), (0 : Int), (⟨(0 : Int), (0 : Int), (0 : Int), (0 : Int)⟩ : A4_uint64)⟩ : S_tree_Node)).bind fun (x35, x36, x37) => need (okN 8 (x1.length + ([x35] : List Int).length)) <| some (.inl ((x1 ++ ([x35] : List Int)), x36.s_, x36.at_, x36.extended_, x36.t_.Root, x36.groups_, x36.depth_, x36.wrong_, x36.full_, x37, true))) ((S.M_rex_walk_atom_sPO (⟨x2, x3, x4, (⟨x10, x5⟩ : S_tree_Tree), x6, x7, x8, x9⟩ : S_rex_walk)).bind fun (x38, x39, x40) => (M_rex_walk_ok_sPO (⟨x39.s_, x39.at_, x39.extended_, (⟨x40, x39.t_.Root⟩ : S_tree_Tree), x39.groups_, x39.depth_, x39.wrong_, x39.full_⟩ : S_rex_walk)).bind fun x41 => iteB (!x41) (some (.inr (x1, x39.s_, x39.at_, x39.extended_, x39.t_.Root, x39.groups_, x39.depth_, x39.wrong_, x39.full_, x40))) (iteB (x39.at_ == x3) ((M_rex_walk_fail_sPOI (⟨x39.s_, x39.at_, x39.extended_, (⟨x40, x39.t_.Root⟩ : S_tree_Tree), x39.groups_, x39.depth_, x39.wrong_, x39.full_⟩ : S_rex_walk) x3).bind fun x42 => some (.inr (x1, x42.s_, x42.at_, x42.extended_, x42.t_.Root, x42.groups_, x42.depth_, x42.wrong_, x42.full_, x40))) ((M_rex_walk_repeats_sPOI (⟨x39.s_, x39.at_, x39.extended_, (⟨x40, x39.t_.Root⟩ : S_tree_Tree), x39.groups_, x39.depth_, x39.wrong_, x39.full_⟩ : S_rex_walk) x38).bind fun (x43, x44, x45) => need (okN 8 (x1.length + ([x43] : List Int).length)) <| some (.inl ((x1 ++ ([x43] : List Int)), x44.s_, x44.at_, x44.extended_, x44.t_.Root, x44.groups_, x44.depth_, x44.wrong_, x44.full_, x45, false))))))) (some (.inr (x1, x2, x3, x4, x5, x6, x7, x8, x9, x10)))
noncomputable def B_rex_walk_branch_sPO (S : SC_rex_walk_group_sPO) (p0 : S_rex_walk) : Option (Int × S_rex_walk × (List S_tree_Node)) :=
 (loop (M_rex_walk_branch_sPO_L0 S) (([] : List Int), p0.s_, p0.at_, p0.extended_, p0.t_.Root, p0.groups_, p0.depth_, p0.wrong_, p0.full_, p0.t_.Nodes, false)).bind fun (x12, x13, x14, x15, x16, x17, x18, x19, x20, x21) => (M_rex_walk_nest_sPOIO (⟨x13, x14, x15, (⟨x21, x16⟩ : S_tree_Tree), x17, x18, x19, x20⟩ : S_rex_walk) (2 : Int) x12).bind fun (x46, x47, x48) => some (x46, (⟨x47.s_, x47.at_, x47.extended_, (⟨x48, x47.t_.Root⟩ : S_tree_Tree), x47.groups_, x47.depth_, x47.wrong_, x47.full_⟩ : S_rex_walk), x48)
theorem okB_rex_walk_branch_sPO {S : SC_rex_walk_group_sPO} (hS : OkSC_rex_walk_group_sPO S) {g : Gd} {h : AHeap} {F : List Ck} {p0 : S_rex_walk} {bp0 : Nat} {rp0_3 : Option Nat} {q0 : Int} {u0 : S_rex_walk} {u1 : List S_tree_Node} {av : List AVal} (hm : B_rex_walk_branch_sPO S p0 = some (q0, u0, u1)) (hc : canL (cfg.still 20) av = [.ptr (some (bp0, 0))]) (A : HH g h [.obj bp0 (.cells none 2 [.str p0.s_, .int .i64 p0.at_, .bool p0.extended_, rowV rp0_3 p0.t_.Nodes.length, .int .i64 p0.t_.Root, .int .i64 p0.groups_, .int .i64 p0.depth_, .int .i64 p0.wrong_, .bool p0.full_]), .lst rp0_3 45 (lst e_S_tree_Node p0.t_.Nodes)] F) : ∃ v h', Runs cfg g h 20 av v h' ∧ ∃ (r'1 : Option Nat), v = .int .i64 q0 ∧ HH g h' [.obj bp0 (.cells none 2 [.str u0.s_, .int .i64 u0.at_, .bool u0.extended_, rowV r'1 u1.length, .int .i64 u0.t_.Root, .int .i64 u0.groups_, .int .i64 u0.depth_, .int .i64 u0.wrong_, .bool u0.full_]), .lst r'1 45 (lst e_S_tree_Node u1)] F := by
 refine runsQ1 (n := 115) (rs := [.tmp 2]) (by kernel_rfl) hc (by kernel_rfl) ?_
 clear hc
 unfold B_rex_walk_branch_sPO at hm
 refine start (n := 115) [(0, .ptr (some (bp0, 0)))] (by kernel_rfl) (by kernel_rfl) ?_
 intro fr H
 refine aw_seq (by kernel_rfl) ?_
 refine aw_reg (id := 0) (n := 1) [(0, [])] (by kernel_rfl) (by kernel_rfl) ?_
 refine at_seg [(0, [])] [(0, .ptr (some (bp0, 0)))] H (noU_all rfl) (fun fr => by kernel_rfl) ?_
 intro fr H
 refine at_nil ?_
 show AW cfg 20 g (right (bodyC cfg.P 20)) fr h _
 refine aw_seq (by kernel_rfl) ?_
 refine aw_reg (id := 1) (n := 1) [(0, [])] (by kernel_rfl) (by kernel_rfl) ?_
 refine at_seg [(0, [])] [(0, .ptr (some (bp0, 0))), (3, .slice none 0)] H (noU_all rfl) (fun fr => by kernel_rfl) ?_
 intro fr H
 refine at_nil ?_
 show AW cfg 20 g (right (right (bodyC cfg.P 20))) fr h _
 refine aw_seq (by kernel_rfl) ?_
 refine aw_reg (id := 2) (n := 1) [(0, [])] (by kernel_rfl) (by kernel_rfl) ?_
 refine at_seg [(0, [])] [(0, .ptr (some (bp0, 0))), (3, .slice none 0), (4, .bool false)] H (noU_all rfl) (fun fr => by kernel_rfl) ?_
 intro fr H
 refine at_nil ?_
 show AW cfg 20 g (right (right (right (bodyC cfg.P 20)))) fr h _
 refine aw_seq (by kernel_rfl) ?_
 refine aw_block (id := 0) (by kernel_rfl) ?_
 replace A : HH g h [.lst none 3 (lst (eI .i64) ([] : List Int)), .obj bp0 (.cells none 2 [.str p0.s_, .int .i64 p0.at_, .bool p0.extended_, rowV rp0_3 p0.t_.Nodes.length, .int .i64 p0.t_.Root, .int .i64 p0.groups_, .int .i64 p0.depth_, .int .i64 p0.wrong_, .bool p0.full_]), .lst rp0_3 45 (lst e_S_tree_Node p0.t_.Nodes)] F := A.nilL 3
 obtain ⟨o1, ho, hm⟩ := bind_some hm
 refine aw_mono (Q' := fun e fr' h' => (∃ (x12 : List Int) (x13 : List UInt8) (x14 : Int) (x15 : Bool) (x16 : Int) (x17 : Int) (x18 : Int) (x19 : Int) (x20 : Bool) (x21 : List S_tree_Node), e = .exit 0 ∧ (x12, x13, x14, x15, x16, x17, x18, x19, x20, x21) = o1 ∧ ∃ (r3 : Option Nat) (r4 : Option Nat), Has fr' 115 [(0, .ptr (some (bp0, 0))), (3, rowV r3 x12.length)] ∧ HH g h' [.lst r3 3 (lst (eI .i64) x12), .obj bp0 (.cells none 2 [.str x13, .int .i64 x14, .bool x15, rowV r4 x21.length, .int .i64 x16, .int .i64 x17, .int .i64 x18, .int .i64 x19, .bool x20]), .lst r4 45 (lst e_S_tree_Node x21)] F) ∨ False) ?_ ?_
 ·refine aw_loop (by kernel_rfl) (fun (s : (List Int) × (List UInt8) × Int × Bool × Int × Int × Int × Int × Bool × (List S_tree_Node) × Bool) fr' h' => ∃ (x1 : List Int) (x2 : List UInt8) (x3 : Int) (x4 : Bool) (x5 : Int) (x6 : Int) (x7 : Int) (x8 : Int) (x9 : Bool) (x10 : List S_tree_Node) (x11 : Bool), (x1, x2, x3, x4, x5, x6, x7, x8, x9, x10, x11) = s ∧ ∃ (r1 : Option Nat) (r2 : Option Nat), Has fr' 115 [(0, .ptr (some (bp0, 0))), (3, rowV r1 x1.length), (4, .bool x11)] ∧ HH g h' [.lst r1 3 (lst (eI .i64) x1), .obj bp0 (.cells none 2 [.str x2, .int .i64 x3, .bool x4, rowV r2 x10.length, .int .i64 x5, .int .i64 x6, .int .i64 x7, .int .i64 x8, .bool x9]), .lst r2 45 (lst e_S_tree_Node x10)] F) ho ⟨([] : List Int), p0.s_, p0.at_, p0.extended_, p0.t_.Root, p0.groups_, p0.depth_, p0.wrong_, p0.full_, p0.t_.Nodes, false, rfl, none, rp0_3, H.less _ (fun fr => by kernel_rfl), A⟩ ?_
  clear ho hm H A
  intro s q fr h1 hI hm
  obtain ⟨x1, x2, x3, x4, x5, x6, x7, x8, x9, x10, x11, rfl, r1, r2, H, A⟩ := hI
  unfold M_rex_walk_branch_sPO_L0 at hm
  refine aw_seq (by kernel_rfl) ?_
  refine aw_seq (by kernel_rfl) ?_
  refine aw_reg (id := 3) (n := 7) [(0, []), (1, []), (2, []), (3, []), (4, []), (5, []), (6, [])] (by kernel_rfl) (by kernel_rfl) ?_
  refine at_seg [(0, [])] [(0, .ptr (some (bp0, 0))), (3, rowV r1 x1.length), (4, .bool x11), (8, .ptr (some (bp0, 0)))] H (noU_all rfl) (fun fr => by kernel_rfl) ?_
  intro fr H
  replace A : HH g h1 [.obj bp0 (.cells none 2 [.str x2, .int .i64 x3, .bool x4, rowV r2 x10.length, .int .i64 x5, .int .i64 x6, .int .i64 x7, .int .i64 x8, .bool x9]), .lst r2 45 (lst e_S_tree_Node x10), .lst r1 3 (lst (eI .i64) x1)] F := ((A.front 2 rfl).front 2 rfl)
  have A1 := A.cut 2
  obtain ⟨x22, hx, hm⟩ := bind_some hm
  obtain ⟨v1, h2, hr, rfl, A1⟩ := ok_rex_walk_ok_sPO (av := [.ptr (some (bp0, 0))]) hx (by kernel_rfl) A1
  replace A : HH g h2 [.obj bp0 (.cells none 2 [.str x2, .int .i64 x3, .bool x4, rowV r2 x10.length, .int .i64 x5, .int .i64 x6, .int .i64 x7, .int .i64 x8, .bool x9]), .lst r2 45 (lst e_S_tree_Node x10), .lst r1 3 (lst (eI .i64) x1)] F := A.glue0 (n := 2) A1
  refine at_step (v := .bool x22) (h1 := h2) [(0, .ptr (some (bp0, 0))), (3, rowV r1 x1.length), (4, .bool x11), (9, .bool x22)] H (fun fr => by kernel_rfl) (fun fr => Steps.call (by kernel_rfl) hr) ?_
  intro fr t H
  refine at_seg [(2, [])] [(0, .ptr (some (bp0, 0))), (3, rowV r1 x1.length), (4, .bool x11), (10, .bool x22)] H (noU_all rfl) (fun fr => by kernel_rfl) ?_
  intro fr H
  obtain ⟨x23, ho, hm⟩ := bind_some hm
  refine at_cut [(3, []), (4, []), (5, []), (6, [])] (fun fr' h' => Has fr' 115 [(0, .ptr (some (bp0, 0))), (3, rowV r1 x1.length), (4, .bool x11), (14, .bool x23)] ∧ HH g h' [.obj bp0 (.cells none 2 [.str x2, .int .i64 x3, .bool x4, rowV r2 x10.length, .int .i64 x5, .int .i64 x6, .int .i64 x7, .int .i64 x8, .bool x9]), .lst r2 45 (lst e_S_tree_Node x10), .lst r1 3 (lst (eI .i64) x1)] F) ?_ ?_
  ·rcases iteB_some ho with ⟨hb, hm⟩ | ⟨hb, hm⟩
   ·replace H := H.know 10 hb (by kernel_rfl)
    refine at_seg [(3, [])] [(0, .ptr (some (bp0, 0))), (3, rowV r1 x1.length), (4, .bool x11), (10, .bool true), (11, .ptr (some (bp0, 0)))] H (noU_all rfl) (fun fr => by kernel_rfl) ?_
    intro fr H
    have A1 := A.cut 2
    obtain ⟨x24, hx, hm⟩ := bind_some hm
    obtain ⟨v1, h4, hr, rfl, A1⟩ := ok_rex_walk_closes_sPO (av := [.ptr (some (bp0, 0))]) hx (by kernel_rfl) A1
    replace A : HH g h4 [.obj bp0 (.cells none 2 [.str x2, .int .i64 x3, .bool x4, rowV r2 x10.length, .int .i64 x5, .int .i64 x6, .int .i64 x7, .int .i64 x8, .bool x9]), .lst r2 45 (lst e_S_tree_Node x10), .lst r1 3 (lst (eI .i64) x1)] F := A.glue0 (n := 2) A1
    refine at_step (v := .bool x24) (h1 := h4) [(0, .ptr (some (bp0, 0))), (3, rowV r1 x1.length), (4, .bool x11), (10, .bool true), (12, .bool x24)] H (fun fr => by kernel_rfl) (fun fr => Steps.call (by kernel_rfl) hr) ?_
    intro fr t H
    refine at_seg [(5, []), (6, [])] [(0, .ptr (some (bp0, 0))), (3, rowV r1 x1.length), (4, .bool x11), (14, .bool (!x24))] H (noU_all rfl) (fun fr => by kernel_rfl) ?_
    intro fr H
    have e1 := Option.some.inj hm
    subst e1
    exact at_nil ⟨H.less _ (fun fr => by kernel_rfl), A⟩
   ·replace H := H.know 10 hb (by kernel_rfl)
    refine at_seg [(3, []), (4, []), (5, []), (6, [])] [(0, .ptr (some (bp0, 0))), (3, rowV r1 x1.length), (4, .bool x11), (14, .bool false)] H (noU_all rfl) (fun fr => by kernel_rfl) ?_
    intro fr H
    have e1 := Option.some.inj hm
    subst e1
    exact at_nil ⟨H.less _ (fun fr => by kernel_rfl), A⟩
  ·clear A
   intro t fr h3 hK
   obtain ⟨H, A⟩ := hK
   refine at_nil ?_
   show AW cfg 20 g (right (left (left (left (left (right (right (right (bodyC cfg.P 20))))))))) fr h3 _
   rcases iteB_some hm with ⟨hb, hm⟩ | ⟨hb, hm⟩
   ·replace H := H.know 14 hb (by kernel_rfl)
    refine aw_true (x := .tmp 14) (by kernel_rfl) H (fun fr => by kernel_rfl) ?_
    refine aw_skip (by kernel_rfl) ?_
    show AW cfg 20 g (right (left (left (left (right (right (right (bodyC cfg.P 20)))))))) fr h3 _
    refine aw_block (id := 1) (by kernel_rfl) ?_
    refine aw_seq (by kernel_rfl) ?_
    refine aw_reg (id := 4) (n := 5) [(0, []), (1, []), (2, []), (3, []), (4, [])] (by kernel_rfl) (by kernel_rfl) ?_
    refine at_seg [(0, []), (1, []), (2, [])] [(0, .ptr (some (bp0, 0))), (3, rowV r1 x1.length), (4, .bool x11), (17, .ptr (some (bp0, 1)))] H (noU_all rfl) (fun fr => by kernel_rfl) ?_
    intro fr H
    refine at_step (v := .int .i64 x3) (h1 := h3) [(0, .ptr (some (bp0, 0))), (3, rowV r1 x1.length), (4, .bool x11), (18, .int .i64 x3)] H (fun fr => by kernel_rfl) (fun fr => .of (s_ld (by kernel_rfl) (A.ld1 0 rfl (o := 1) rfl))) ?_
    intro fr t H
    refine at_seg [(4, [])] [(0, .ptr (some (bp0, 0))), (3, rowV r1 x1.length), (4, .bool x11), (5, .int .i64 x3)] H (noU_all rfl) (fun fr => by kernel_rfl) ?_
    intro fr H
    refine at_nil ?_
    show AW cfg 20 g (right (left (right (left (left (left (right (right (right (bodyC cfg.P 20)))))))))) fr h3 _
    refine aw_seq (by kernel_rfl) ?_
    refine aw_reg (id := 5) (n := 4) [(0, []), (1, []), (2, []), (3, [])] (by kernel_rfl) (by kernel_rfl) ?_
    refine at_seg [(0, []), (1, []), (2, []), (3, [])] [(0, .ptr (some (bp0, 0))), (3, rowV r1 x1.length), (4, .bool x11), (5, .int .i64 x3), (6, .bool ((x1.length : Int) == (0 : Int)))] H (noU_all rfl) (fun fr => by kernel_rfl) ?_
    intro fr H
    refine at_nil ?_
    show AW cfg 20 g (right (right (left (right (left (left (left (right (right (right (bodyC cfg.P 20))))))))))) fr h3 _
    refine aw_seq (by kernel_rfl) ?_
    refine aw_seq (by kernel_rfl) ?_
    refine aw_draw (id := 6) (n := 23) (by kernel_rfl) [(0, []), (1, []), (2, []), (3, []), (4, []), (5, []), (6, []), (7, []), (8, []), (9, []), (10, []), (11, []), (12, []), (13, []), (14, []), (15, []), (16, []), (17, []), (18, []), (19, []), (20, []), (21, []), (22, [])] (by kernel_rfl) ?_
    refine at_seg [(0, []), (1, []), (2, [])] [(0, .ptr (some (bp0, 0))), (3, rowV r1 x1.length), (4, .bool x11), (5, .int .i64 x3), (6, .bool ((x1.length : Int) == (0 : Int))), (24, .ptr (some (bp0, 2)))] H (noU_all rfl) (fun fr => by kernel_rfl) ?_
    intro fr H
    refine at_step (v := .bool x4) (h1 := h3) [(0, .ptr (some (bp0, 0))), (3, rowV r1 x1.length), (4, .bool x11), (5, .int .i64 x3), (6, .bool ((x1.length : Int) == (0 : Int))), (25, .bool x4)] H (fun fr => by kernel_rfl) (fun fr => .of (s_ld (by kernel_rfl) (A.ld1 0 rfl (o := 2) rfl))) ?_
    intro fr t H
    refine at_seg [(4, []), (5, [])] [(0, .ptr (some (bp0, 0))), (3, rowV r1 x1.length), (4, .bool x11), (5, .int .i64 x3), (6, .bool ((x1.length : Int) == (0 : Int))), (27, .bool (!x4))] H (noU_all rfl) (fun fr => by kernel_rfl) ?_
    intro fr H
    obtain ⟨x25, ho, hm⟩ := bind_some hm
    refine at_cut [(6, []), (7, []), (8, []), (9, []), (10, []), (11, []), (12, []), (13, []), (14, []), (15, []), (16, [])] (fun fr' h' => Has fr' 115 [(0, .ptr (some (bp0, 0))), (3, rowV r1 x1.length), (4, .bool x11), (5, .int .i64 x3), (6, .bool ((x1.length : Int) == (0 : Int))), (38, .bool x25)] ∧ HH g h' [.obj bp0 (.cells none 2 [.str x2, .int .i64 x3, .bool x4, rowV r2 x10.length, .int .i64 x5, .int .i64 x6, .int .i64 x7, .int .i64 x8, .bool x9]), .lst r2 45 (lst e_S_tree_Node x10), .lst r1 3 (lst (eI .i64) x1)] F) ?_ ?_
    ·rcases iteB_some ho with ⟨hb, hm⟩ | ⟨hb, hm⟩
     ·replace H := H.know 27 hb (by kernel_rfl)
      refine at_seg [(6, []), (7, []), (8, [])] [(0, .ptr (some (bp0, 0))), (3, rowV r1 x1.length), (4, .bool x11), (5, .int .i64 x3), (6, .bool ((x1.length : Int) == (0 : Int))), (27, .bool true), (30, .ptr (some (bp0, 0)))] H (noU_all rfl) (fun fr => by kernel_rfl) ?_
      intro fr H
      refine at_step (v := .str x2) (h1 := h3) [(0, .ptr (some (bp0, 0))), (3, rowV r1 x1.length), (4, .bool x11), (5, .int .i64 x3), (6, .bool ((x1.length : Int) == (0 : Int))), (27, .bool true), (31, .str x2)] H (fun fr => by kernel_rfl) (fun fr => .of (s_ld (by kernel_rfl) (A.ld1 0 rfl (o := 0) rfl))) ?_
      intro fr t H
      refine at_seg [(10, []), (11, []), (12, [])] [(0, .ptr (some (bp0, 0))), (3, rowV r1 x1.length), (4, .bool x11), (5, .int .i64 x3), (6, .bool ((x1.length : Int) == (0 : Int))), (27, .bool true), (31, .str x2), (34, .ptr (some (bp0, 1)))] H (noU_all rfl) (fun fr => by kernel_rfl) ?_
      intro fr H
      refine at_step (v := .int .i64 x3) (h1 := h3) [(0, .ptr (some (bp0, 0))), (3, rowV r1 x1.length), (4, .bool x11), (5, .int .i64 x3), (6, .bool ((x1.length : Int) == (0 : Int))), (27, .bool true), (31, .str x2), (35, .int .i64 x3)] H (fun fr => by kernel_rfl) (fun fr => .of (s_ld (by kernel_rfl) (A.ld1 0 rfl (o := 1) rfl))) ?_
      intro fr t H
      obtain ⟨x26, hx, hm⟩ := bind_some hm
      refine at_step (v := .int .u8 x26) (h1 := h3) [(0, .ptr (some (bp0, 0))), (3, rowV r1 x1.length), (4, .bool x11), (5, .int .i64 x3), (6, .bool ((x1.length : Int) == (0 : Int))), (27, .bool true), (36, .int .u8 x26)] H (fun fr => by kernel_rfl) (fun fr => .of (s_ixS (by kernel_rfl) hx)) ?_
      intro fr t H
      refine at_seg [(15, []), (16, [])] [(0, .ptr (some (bp0, 0))), (3, rowV r1 x1.length), (4, .bool x11), (5, .int .i64 x3), (6, .bool ((x1.length : Int) == (0 : Int))), (38, .bool (x26 == (42 : Int)))] H (noU_all rfl) (fun fr => by kernel_rfl) ?_
      intro fr H
      have e1 := Option.some.inj hm
      subst e1
      exact at_nil ⟨H.less _ (fun fr => by kernel_rfl), A⟩
     ·replace H := H.know 27 hb (by kernel_rfl)
      refine at_seg [(6, []), (7, []), (8, []), (9, []), (10, []), (11, []), (12, []), (13, []), (14, []), (15, []), (16, [])] [(0, .ptr (some (bp0, 0))), (3, rowV r1 x1.length), (4, .bool x11), (5, .int .i64 x3), (6, .bool ((x1.length : Int) == (0 : Int))), (38, .bool false)] H (noU_all rfl) (fun fr => by kernel_rfl) ?_
      intro fr H
      have e1 := Option.some.inj hm
      subst e1
      exact at_nil ⟨H.less _ (fun fr => by kernel_rfl), A⟩
    ·clear A
     intro t fr h5 hK
     obtain ⟨H, A⟩ := hK
     refine at_seg [(17, [])] [(0, .ptr (some (bp0, 0))), (3, rowV r1 x1.length), (4, .bool x11), (5, .int .i64 x3), (6, .bool ((x1.length : Int) == (0 : Int))), (39, .bool x25)] H (noU_all rfl) (fun fr => by kernel_rfl) ?_
     intro fr H
     refine at_cut [(18, []), (19, []), (20, []), (21, []), (22, [])] (fun fr' h' => h5 = h' ∧ Has fr' 115 [(0, .ptr (some (bp0, 0))), (3, rowV r1 x1.length), (5, .int .i64 x3), (6, .bool ((x1.length : Int) == (0 : Int))), (44, .bool (x25 && (((x1.length : Int) == (0 : Int)) || x11)))]) ?_ ?_
     ·cases hb : (x25 : Bool) with
      | true =>
       replace H := H.know 39 hb (by kernel_rfl)
       refine at_seg [(18, []), (19, [])] [(0, .ptr (some (bp0, 0))), (3, rowV r1 x1.length), (4, .bool x11), (5, .int .i64 x3), (6, .bool ((x1.length : Int) == (0 : Int))), (39, .bool true), (41, .bool ((x1.length : Int) == (0 : Int)))] H (noU_all rfl) (fun fr => by kernel_rfl) ?_
       intro fr H
       refine at_cut [(20, []), (21, [])] (fun fr' h' => h5 = h' ∧ Has fr' 115 [(0, .ptr (some (bp0, 0))), (3, rowV r1 x1.length), (5, .int .i64 x3), (6, .bool ((x1.length : Int) == (0 : Int))), (39, .bool true), (43, .bool (((x1.length : Int) == (0 : Int)) || x11))]) ?_ ?_
       ·cases hb : ((x1.length : Int) == (0 : Int) : Bool) with
        | true =>
         replace H := H.know 41 hb (by kernel_rfl)
         refine at_seg [(20, []), (21, [])] [(0, .ptr (some (bp0, 0))), (3, rowV r1 x1.length), (5, .int .i64 x3), (6, .bool ((x1.length : Int) == (0 : Int))), (39, .bool true), (43, .bool true)] H (noU_all rfl) (fun fr => by kernel_rfl) ?_
         intro fr H
         exact at_nil ⟨rfl, by first | exact H.less _ (fun fr => by rfl) | exact H.less _ (fun fr => by rw [hb]; rfl)⟩
        | false =>
         replace H := H.know 41 hb (by kernel_rfl)
         refine at_seg [(20, []), (21, [])] [(0, .ptr (some (bp0, 0))), (3, rowV r1 x1.length), (5, .int .i64 x3), (6, .bool ((x1.length : Int) == (0 : Int))), (39, .bool true), (43, .bool x11)] H (noU_all rfl) (fun fr => by kernel_rfl) ?_
         intro fr H
         exact at_nil ⟨rfl, by first | exact H.less _ (fun fr => by rfl) | exact H.less _ (fun fr => by rw [hb]; rfl)⟩
       ·intro t fr h' hK
        obtain ⟨e, H⟩ := hK
        subst e
        refine at_seg [(22, [])] [(0, .ptr (some (bp0, 0))), (3, rowV r1 x1.length), (5, .int .i64 x3), (6, .bool ((x1.length : Int) == (0 : Int))), (44, .bool (((x1.length : Int) == (0 : Int)) || x11))] H (noU_all rfl) (fun fr => by kernel_rfl) ?_
        intro fr H
        exact at_nil ⟨rfl, by first | exact H.less _ (fun fr => by rfl) | exact H.less _ (fun fr => by rw [hb]; rfl)⟩
      | false =>
       replace H := H.know 39 hb (by kernel_rfl)
       refine at_seg [(18, []), (19, []), (20, []), (21, []), (22, [])] [(0, .ptr (some (bp0, 0))), (3, rowV r1 x1.length), (5, .int .i64 x3), (6, .bool ((x1.length : Int) == (0 : Int))), (44, .bool false)] H (noU_all rfl) (fun fr => by kernel_rfl) ?_
       intro fr H
       exact at_nil ⟨rfl, by first | exact H.less _ (fun fr => by rfl) | exact H.less _ (fun fr => by rw [hb]; rfl)⟩
     ·intro t fr h' hK
      obtain ⟨e, H⟩ := hK
      subst e
      refine at_nil ?_
      show AW cfg 20 g (right (left (right (right (left (right (left (left (left (right (right (right (bodyC cfg.P 20))))))))))))) fr h5 _
      rcases iteB_some hm with ⟨hb, hm⟩ | ⟨hb, hm⟩
      ·replace H := H.know 44 hb (by kernel_rfl)
       refine aw_true (x := .tmp 44) (by kernel_rfl) H (fun fr => by kernel_rfl) ?_
       refine aw_seq (by kernel_rfl) ?_
       refine aw_reg (id := 7) (n := 8) [(0, []), (1, []), (2, []), (3, []), (4, []), (5, []), (6, []), (7, [])] (by kernel_rfl) (by kernel_rfl) ?_
       refine at_seg [(0, []), (1, []), (2, [])] [(0, .ptr (some (bp0, 0))), (3, rowV r1 x1.length), (45, .ptr (some (bp0, 0))), (47, .ptr (some (bp0, 1)))] H (noU_all rfl) (fun fr => by kernel_rfl) ?_
       intro fr H
       refine at_step (v := .int .i64 x3) (h1 := h5) [(0, .ptr (some (bp0, 0))), (3, rowV r1 x1.length), (45, .ptr (some (bp0, 0))), (48, .int .i64 x3)] H (fun fr => by kernel_rfl) (fun fr => .of (s_ld (by kernel_rfl) (A.ld1 0 rfl (o := 1) rfl))) ?_
       intro fr t H
       refine at_seg [(4, []), (5, []), (6, [])] [(0, .ptr (some (bp0, 0))), (3, rowV r1 x1.length), (49, .int .i64 (IntKind.i64.wrap (x3 + (1 : Int)))), (51, .ptr (some (bp0, 1)))] H (noU_all rfl) (fun fr => by kernel_rfl) ?_
       intro fr H
       obtain ⟨h6, hx, A1⟩ := A.st 0 rfl (o := 1) (new := [.int .i64 (IntKind.i64.wrap (x3 + (1 : Int)))]) (ds := [.str x2, .int .i64 (IntKind.i64.wrap (x3 + (1 : Int))), .bool x4, rowV r2 x10.length, .int .i64 x5, .int .i64 x6, .int .i64 x7, .int .i64 x8, .bool x9]) (Nat.le_of_ble_eq_true rfl) rfl rfl
       replace A : HH g h6 [.obj bp0 (.cells none 2 [.str x2, .int .i64 (IntKind.i64.wrap (x3 + (1 : Int))), .bool x4, rowV r2 x10.length, .int .i64 x5, .int .i64 x6, .int .i64 x7, .int .i64 x8, .bool x9]), .lst r2 45 (lst e_S_tree_Node x10), .lst r1 3 (lst (eI .i64) x1)] F := A1
       refine at_step (v := .tuple []) (h1 := h6) [(0, .ptr (some (bp0, 0))), (3, rowV r1 x1.length)] H (fun fr => by kernel_rfl) (fun fr => .of (s_st (by kernel_rfl) rfl hx)) ?_
       intro fr t H
       refine at_nil ?_
       show AW cfg 20 g (right (left (right (left (right (right (left (right (left (left (left (right (right (right (bodyC cfg.P 20))))))))))))))) fr h6 _
       refine aw_seq (by kernel_rfl) ?_
       refine aw_reg (id := 8) (n := 8) [(0, []), (1, []), (2, []), (3, []), (4, []), (5, []), (6, []), (7, [])] (by kernel_rfl) (by kernel_rfl) ?_
       refine at_seg [(0, []), (1, []), (2, [])] [(0, .ptr (some (bp0, 0))), (52, rowV r1 x1.length), (53, .ptr (some (bp0, 0))), (54, .ptr (some (bp0, 0)))] H (noU_all rfl) (fun fr => by kernel_rfl) ?_
       intro fr H
       have A1 := A.cut 2
       obtain ⟨⟨x27, x28, x29⟩, hx, hm⟩ := bind_some hm
       obtain ⟨v1, h7, hr, r5, rfl, A1⟩ := ok_rex_walk_one_sPOI (av := [.ptr (some (bp0, 0)), .int .u8 (42 : Int)]) hx (by kernel_rfl) A1
       replace A : HH g h7 [.obj bp0 (.cells none 2 [.str x28.s_, .int .i64 x28.at_, .bool x28.extended_, rowV r5 x29.length, .int .i64 x28.t_.Root, .int .i64 x28.groups_, .int .i64 x28.depth_, .int .i64 x28.wrong_, .bool x28.full_]), .lst r5 45 (lst e_S_tree_Node x29), .lst r1 3 (lst (eI .i64) x1)] F := A.glue0 (n := 2) A1
       refine at_step (v := .int .i64 x27) (h1 := h7) [(0, .ptr (some (bp0, 0))), (52, rowV r1 x1.length), (53, .ptr (some (bp0, 0))), (55, .int .i64 x27)] H (fun fr => by kernel_rfl) (fun fr => Steps.call (by kernel_rfl) hr) ?_
       intro fr t H
       have A1 := A.cut 2
       obtain ⟨⟨x30, x31, x32⟩, hx, hm⟩ := bind_some hm
       obtain ⟨v1, h8, hr, r6, rfl, A1⟩ := ok_rex_walk_repeats_sPOI (av := [.ptr (some (bp0, 0)), .int .i64 x27]) hx (by kernel_rfl) A1
       replace A : HH g h8 [.obj bp0 (.cells none 2 [.str x31.s_, .int .i64 x31.at_, .bool x31.extended_, rowV r6 x32.length, .int .i64 x31.t_.Root, .int .i64 x31.groups_, .int .i64 x31.depth_, .int .i64 x31.wrong_, .bool x31.full_]), .lst r6 45 (lst e_S_tree_Node x32), .lst r1 3 (lst (eI .i64) x1)] F := A.glue0 (n := 2) A1
       refine at_step (v := .int .i64 x30) (h1 := h8) [(0, .ptr (some (bp0, 0))), (52, rowV r1 x1.length), (56, .int .i64 x30)] H (fun fr => by kernel_rfl) (fun fr => Steps.call (by kernel_rfl) hr) ?_
       intro fr t H
       obtain ⟨h9, e1⟩ : ∃ x, x = h8.push (.cells (some 3) 2 [.int .i64 x30]) := ⟨_, rfl⟩
       replace A := (A.pushL _ _).to e1
       refine at_step (v := rowV (some h8.size) (([x30] : List Int).length)) (h1 := h9) [(0, .ptr (some (bp0, 0))), (52, rowV r1 x1.length), (57, rowV (some h8.size) (([x30] : List Int).length))] H (fun fr => by kernel_rfl) (fun fr => .of (s_n' (by kernel_rfl) (congrArg some e1.symm))) ?_
       intro fr t H
       obtain ⟨hb, hm⟩ := need_some hm
       obtain ⟨r7, h10, hx, A1⟩ := HH.appO (encI .i64) (by decide) A 3 (xs := x1) (ys := ([x30] : List Int)) rfl (row_first A 0 rfl (n := ([x30] : List Int).length) (z := 1) rfl (by decide)) rfl rfl hb
       replace A : HH g h10 [.lst (some h8.size) 3 ([.int .i64 x30]), .obj bp0 (.cells none 2 [.str x31.s_, .int .i64 x31.at_, .bool x31.extended_, rowV r6 x32.length, .int .i64 x31.t_.Root, .int .i64 x31.groups_, .int .i64 x31.depth_, .int .i64 x31.wrong_, .bool x31.full_]), .lst r6 45 (lst e_S_tree_Node x32), .lst r7 3 (lst (eI .i64) (x1 ++ ([x30] : List Int)))] F := A1
       replace A : HH g h10 [.obj bp0 (.cells none 2 [.str x31.s_, .int .i64 x31.at_, .bool x31.extended_, rowV r6 x32.length, .int .i64 x31.t_.Root, .int .i64 x31.groups_, .int .i64 x31.depth_, .int .i64 x31.wrong_, .bool x31.full_]), .lst r6 45 (lst e_S_tree_Node x32), .lst r7 3 (lst (eI .i64) (x1 ++ ([x30] : List Int)))] F := (HH.dropF (((A.front 3 rfl).front 3 rfl).front 3 rfl) 3)
       refine at_step (v := rowV r7 ((x1 ++ ([x30] : List Int)).length)) (h1 := h10) [(0, .ptr (some (bp0, 0))), (58, rowV r7 ((x1 ++ ([x30] : List Int)).length))] H (fun fr => by kernel_rfl) (fun fr => .of (s_app (s := rowS r1 x1.length) (by kernel_rfl) hx)) ?_
       intro fr t H
       refine at_seg [(7, [])] [(0, .ptr (some (bp0, 0))), (3, rowV r7 ((x1 ++ ([x30] : List Int)).length))] H (noU_all rfl) (fun fr => by kernel_rfl) ?_
       intro fr H
       refine at_nil ?_
       show AW cfg 20 g (right (right (left (right (left (right (right (left (right (left (left (left (right (right (right (bodyC cfg.P 20)))))))))))))))) fr h10 _
       refine aw_seq (by kernel_rfl) ?_
       refine aw_reg (id := 9) (n := 1) [(0, [])] (by kernel_rfl) (by kernel_rfl) ?_
       refine at_seg [(0, [])] [(0, .ptr (some (bp0, 0))), (3, rowV r7 ((x1 ++ ([x30] : List Int)).length)), (4, .bool false)] H (noU_all rfl) (fun fr => by kernel_rfl) ?_
       intro fr H
       refine at_nil ?_
       show AW cfg 20 g (right (right (right (left (right (left (right (right (left (right (left (left (left (right (right (right (bodyC cfg.P 20))))))))))))))))) fr h10 _
       refine aw_exit (i := 1) (by kernel_rfl) ?_
       replace A : HH g h10 [.lst r7 3 (lst (eI .i64) (x1 ++ ([x30] : List Int))), .obj bp0 (.cells none 2 [.str x31.s_, .int .i64 x31.at_, .bool x31.extended_, rowV r6 x32.length, .int .i64 x31.t_.Root, .int .i64 x31.groups_, .int .i64 x31.depth_, .int .i64 x31.wrong_, .bool x31.full_]), .lst r6 45 (lst e_S_tree_Node x32)] F := (((A.front 1 rfl).front 1 rfl).front 2 rfl)
       exact Exists.intro ((x1 ++ ([x30] : List Int)), x31.s_, x31.at_, x31.extended_, x31.t_.Root, x31.groups_, x31.depth_, x31.wrong_, x31.full_, x32, false) (And.intro (Option.some.inj hm).symm ⟨(x1 ++ ([x30] : List Int)), x31.s_, x31.at_, x31.extended_, x31.t_.Root, x31.groups_, x31.depth_, x31.wrong_, x31.full_, x32, false, rfl, r7, r6, H.less _ (fun fr => by kernel_rfl), A⟩)
      ·replace H := H.know 44 hb (by kernel_rfl)
       refine aw_false (x := .tmp 44) (by kernel_rfl) H (fun fr => by kernel_rfl) ?_
       refine aw_skip (by kernel_rfl) ?_
       show AW cfg 20 g (right (right (right (left (right (left (left (left (right (right (right (bodyC cfg.P 20)))))))))))) fr h5 _
       refine aw_seq (by kernel_rfl) ?_
       refine aw_seq (by kernel_rfl) ?_
       refine aw_draw (id := 10) (n := 20) (by kernel_rfl) [(0, []), (1, []), (2, []), (3, []), (4, []), (5, []), (6, []), (7, []), (8, []), (9, []), (10, []), (11, []), (12, []), (13, []), (14, []), (15, []), (16, []), (17, []), (18, []), (19, [])] (by kernel_rfl) ?_
       refine at_seg [(0, []), (1, []), (2, [])] [(0, .ptr (some (bp0, 0))), (3, rowV r1 x1.length), (5, .int .i64 x3), (6, .bool ((x1.length : Int) == (0 : Int))), (61, .ptr (some (bp0, 2)))] H (noU_all rfl) (fun fr => by kernel_rfl) ?_
       intro fr H
       refine at_step (v := .bool x4) (h1 := h5) [(0, .ptr (some (bp0, 0))), (3, rowV r1 x1.length), (5, .int .i64 x3), (6, .bool ((x1.length : Int) == (0 : Int))), (62, .bool x4)] H (fun fr => by kernel_rfl) (fun fr => .of (s_ld (by kernel_rfl) (A.ld1 0 rfl (o := 2) rfl))) ?_
       intro fr t H
       refine at_seg [(4, []), (5, [])] [(0, .ptr (some (bp0, 0))), (3, rowV r1 x1.length), (5, .int .i64 x3), (6, .bool ((x1.length : Int) == (0 : Int))), (64, .bool (!x4))] H (noU_all rfl) (fun fr => by kernel_rfl) ?_
       intro fr H
       obtain ⟨x33, ho, hm⟩ := bind_some hm
       refine at_cut [(6, []), (7, []), (8, []), (9, []), (10, []), (11, []), (12, []), (13, []), (14, []), (15, []), (16, [])] (fun fr' h' => Has fr' 115 [(0, .ptr (some (bp0, 0))), (3, rowV r1 x1.length), (5, .int .i64 x3), (6, .bool ((x1.length : Int) == (0 : Int))), (75, .bool x33)] ∧ HH g h' [.obj bp0 (.cells none 2 [.str x2, .int .i64 x3, .bool x4, rowV r2 x10.length, .int .i64 x5, .int .i64 x6, .int .i64 x7, .int .i64 x8, .bool x9]), .lst r2 45 (lst e_S_tree_Node x10), .lst r1 3 (lst (eI .i64) x1)] F) ?_ ?_
       ·rcases iteB_some ho with ⟨hb, hm⟩ | ⟨hb, hm⟩
        ·replace H := H.know 64 hb (by kernel_rfl)
         refine at_seg [(6, []), (7, []), (8, [])] [(0, .ptr (some (bp0, 0))), (3, rowV r1 x1.length), (5, .int .i64 x3), (6, .bool ((x1.length : Int) == (0 : Int))), (64, .bool true), (67, .ptr (some (bp0, 0)))] H (noU_all rfl) (fun fr => by kernel_rfl) ?_
         intro fr H
         refine at_step (v := .str x2) (h1 := h5) [(0, .ptr (some (bp0, 0))), (3, rowV r1 x1.length), (5, .int .i64 x3), (6, .bool ((x1.length : Int) == (0 : Int))), (64, .bool true), (68, .str x2)] H (fun fr => by kernel_rfl) (fun fr => .of (s_ld (by kernel_rfl) (A.ld1 0 rfl (o := 0) rfl))) ?_
         intro fr t H
         refine at_seg [(10, []), (11, []), (12, [])] [(0, .ptr (some (bp0, 0))), (3, rowV r1 x1.length), (5, .int .i64 x3), (6, .bool ((x1.length : Int) == (0 : Int))), (64, .bool true), (68, .str x2), (71, .ptr (some (bp0, 1)))] H (noU_all rfl) (fun fr => by kernel_rfl) ?_
         intro fr H
         refine at_step (v := .int .i64 x3) (h1 := h5) [(0, .ptr (some (bp0, 0))), (3, rowV r1 x1.length), (5, .int .i64 x3), (6, .bool ((x1.length : Int) == (0 : Int))), (64, .bool true), (68, .str x2), (72, .int .i64 x3)] H (fun fr => by kernel_rfl) (fun fr => .of (s_ld (by kernel_rfl) (A.ld1 0 rfl (o := 1) rfl))) ?_
         intro fr t H
         obtain ⟨x34, hx, hm⟩ := bind_some hm
         refine at_step (v := .int .u8 x34) (h1 := h5) [(0, .ptr (some (bp0, 0))), (3, rowV r1 x1.length), (5, .int .i64 x3), (6, .bool ((x1.length : Int) == (0 : Int))), (64, .bool true), (73, .int .u8 x34)] H (fun fr => by kernel_rfl) (fun fr => .of (s_ixS (by kernel_rfl) hx)) ?_
         intro fr t H
         refine at_seg [(15, []), (16, [])] [(0, .ptr (some (bp0, 0))), (3, rowV r1 x1.length), (5, .int .i64 x3), (6, .bool ((x1.length : Int) == (0 : Int))), (75, .bool (x34 == (94 : Int)))] H (noU_all rfl) (fun fr => by kernel_rfl) ?_
         intro fr H
         have e1 := Option.some.inj hm
         subst e1
         exact at_nil ⟨H.less _ (fun fr => by kernel_rfl), A⟩
        ·replace H := H.know 64 hb (by kernel_rfl)
         refine at_seg [(6, []), (7, []), (8, []), (9, []), (10, []), (11, []), (12, []), (13, []), (14, []), (15, []), (16, [])] [(0, .ptr (some (bp0, 0))), (3, rowV r1 x1.length), (5, .int .i64 x3), (6, .bool ((x1.length : Int) == (0 : Int))), (75, .bool false)] H (noU_all rfl) (fun fr => by kernel_rfl) ?_
         intro fr H
         have e1 := Option.some.inj hm
         subst e1
         exact at_nil ⟨H.less _ (fun fr => by kernel_rfl), A⟩
       ·clear A
        intro t fr h11 hK
        obtain ⟨H, A⟩ := hK
        refine at_seg [(17, [])] [(0, .ptr (some (bp0, 0))), (3, rowV r1 x1.length), (5, .int .i64 x3), (6, .bool ((x1.length : Int) == (0 : Int))), (76, .bool x33)] H (noU_all rfl) (fun fr => by kernel_rfl) ?_
        intro fr H
        refine at_cut [(18, []), (19, [])] (fun fr' h' => h11 = h' ∧ Has fr' 115 [(0, .ptr (some (bp0, 0))), (3, rowV r1 x1.length), (5, .int .i64 x3), (78, .bool (x33 && ((x1.length : Int) == (0 : Int))))]) ?_ ?_
        ·cases hb : (x33 : Bool) with
         | true =>
          replace H := H.know 76 hb (by kernel_rfl)
          refine at_seg [(18, []), (19, [])] [(0, .ptr (some (bp0, 0))), (3, rowV r1 x1.length), (5, .int .i64 x3), (78, .bool ((x1.length : Int) == (0 : Int)))] H (noU_all rfl) (fun fr => by kernel_rfl) ?_
          intro fr H
          exact at_nil ⟨rfl, by first | exact H.less _ (fun fr => by rfl) | exact H.less _ (fun fr => by rw [hb]; rfl)⟩
         | false =>
          replace H := H.know 76 hb (by kernel_rfl)
          refine at_seg [(18, []), (19, [])] [(0, .ptr (some (bp0, 0))), (3, rowV r1 x1.length), (5, .int .i64 x3), (78, .bool false)] H (noU_all rfl) (fun fr => by kernel_rfl) ?_
          intro fr H
          exact at_nil ⟨rfl, by first | exact H.less _ (fun fr => by rfl) | exact H.less _ (fun fr => by rw [hb]; rfl)⟩
        ·intro t fr h' hK
         obtain ⟨e, H⟩ := hK
         subst e
         refine at_nil ?_
         show AW cfg 20 g (right (left (right (right (right (left (right (left (left (left (right (right (right (bodyC cfg.P 20)))))))))))))) fr h11 _
         rcases iteB_some hm with ⟨hb, hm⟩ | ⟨hb, hm⟩
         ·replace H := H.know 78 hb (by kernel_rfl)
          refine aw_true (x := .tmp 78) (by kernel_rfl) H (fun fr => by kernel_rfl) ?_
          refine aw_seq (by kernel_rfl) ?_
          refine aw_reg (id := 11) (n := 8) [(0, []), (1, []), (2, []), (3, []), (4, []), (5, []), (6, []), (7, [])] (by kernel_rfl) (by kernel_rfl) ?_
          refine at_seg [(0, []), (1, []), (2, [])] [(0, .ptr (some (bp0, 0))), (3, rowV r1 x1.length), (79, .ptr (some (bp0, 0))), (81, .ptr (some (bp0, 1)))] H (noU_all rfl) (fun fr => by kernel_rfl) ?_
          intro fr H
          refine at_step (v := .int .i64 x3) (h1 := h11) [(0, .ptr (some (bp0, 0))), (3, rowV r1 x1.length), (79, .ptr (some (bp0, 0))), (82, .int .i64 x3)] H (fun fr => by kernel_rfl) (fun fr => .of (s_ld (by kernel_rfl) (A.ld1 0 rfl (o := 1) rfl))) ?_
          intro fr t H
          refine at_seg [(4, []), (5, []), (6, [])] [(0, .ptr (some (bp0, 0))), (3, rowV r1 x1.length), (83, .int .i64 (IntKind.i64.wrap (x3 + (1 : Int)))), (85, .ptr (some (bp0, 1)))] H (noU_all rfl) (fun fr => by kernel_rfl) ?_
          intro fr H
          obtain ⟨h12, hx, A1⟩ := A.st 0 rfl (o := 1) (new := [.int .i64 (IntKind.i64.wrap (x3 + (1 : Int)))]) (ds := [.str x2, .int .i64 (IntKind.i64.wrap (x3 + (1 : Int))), .bool x4, rowV r2 x10.length, .int .i64 x5, .int .i64 x6, .int .i64 x7, .int .i64 x8, .bool x9]) (Nat.le_of_ble_eq_true rfl) rfl rfl
          replace A : HH g h12 [.obj bp0 (.cells none 2 [.str x2, .int .i64 (IntKind.i64.wrap (x3 + (1 : Int))), .bool x4, rowV r2 x10.length, .int .i64 x5, .int .i64 x6, .int .i64 x7, .int .i64 x8, .bool x9]), .lst r2 45 (lst e_S_tree_Node x10), .lst r1 3 (lst (eI .i64) x1)] F := A1
          refine at_step (v := .tuple []) (h1 := h12) [(0, .ptr (some (bp0, 0))), (3, rowV r1 x1.length)] H (fun fr => by kernel_rfl) (fun fr => .of (s_st (by kernel_rfl) rfl hx)) ?_
          intro fr t H
          refine at_nil ?_
          show AW cfg 20 g (right (left (right (left (right (right (right (left (right (left (left (left (right (right (right (bodyC cfg.P 20)))))))))))))))) fr h12 _
          refine aw_seq (by kernel_rfl) ?_
          refine aw_reg (id := 12) (n := 7) [(0, []), (1, []), (2, []), (3, []), (4, []), (5, []), (6, [])] (by kernel_rfl) (by kernel_rfl) ?_
          refine at_seg [(0, []), (1, []), (2, [])] [(0, .ptr (some (bp0, 0))), (86, rowV r1 x1.length), (87, .ptr (some (bp0, 0))), (88, .agg [.int .i64 (6 : Int), .int .i64 (0 : Int), .int .i64 (0 : Int), .int .i64 (0 : Int), .int .i64 (0 : Int), .int .i64 (0 : Int), .int .u64 (0 : Int), .int .u64 (0 : Int), .int .u64 (0 : Int), .int .u64 (0 : Int)])] H (noU_all rfl) (fun fr => by kernel_rfl) ?_
          intro fr H
          have A1 := A.cut 2
          obtain ⟨⟨x35, x36, x37⟩, hx, hm⟩ := bind_some hm
          obtain ⟨v1, h13, hr, r8, rfl, A1⟩ := ok_rex_walk_add_sPOR (av := [.ptr (some (bp0, 0)), .agg [.int .i64 (6 : Int), .int .i64 (0 : Int), .int .i64 (0 : Int), .int .i64 (0 : Int), .int .i64 (0 : Int), .int .i64 (0 : Int), .int .u64 (0 : Int), .int .u64 (0 : Int), .int .u64 (0 : Int), .int .u64 (0 : Int)]]) hx (by kernel_rfl) A1
          replace A : HH g h13 [.obj bp0 (.cells none 2 [.str x36.s_, .int .i64 x36.at_, .bool x36.extended_, rowV r8 x37.length, .int .i64 x36.t_.Root, .int .i64 x36.groups_, .int .i64 x36.depth_, .int .i64 x36.wrong_, .bool x36.full_]), .lst r8 45 (lst e_S_tree_Node x37), .lst r1 3 (lst (eI .i64) x1)] F := A.glue0 (n := 2) A1
          refine at_step (v := .int .i64 x35) (h1 := h13) [(0, .ptr (some (bp0, 0))), (86, rowV r1 x1.length), (89, .int .i64 x35)] H (fun fr => by kernel_rfl) (fun fr => Steps.call (by kernel_rfl) hr) ?_
          intro fr t H
          obtain ⟨h14, e2⟩ : ∃ x, x = h13.push (.cells (some 3) 2 [.int .i64 x35]) := ⟨_, rfl⟩
          replace A := (A.pushL _ _).to e2
          refine at_step (v := rowV (some h13.size) (([x35] : List Int).length)) (h1 := h14) [(0, .ptr (some (bp0, 0))), (86, rowV r1 x1.length), (90, rowV (some h13.size) (([x35] : List Int).length))] H (fun fr => by kernel_rfl) (fun fr => .of (s_n' (by kernel_rfl) (congrArg some e2.symm))) ?_
          intro fr t H
          obtain ⟨hb, hm⟩ := need_some hm
          obtain ⟨r9, h15, hx, A1⟩ := HH.appO (encI .i64) (by decide) A 3 (xs := x1) (ys := ([x35] : List Int)) rfl (row_first A 0 rfl (n := ([x35] : List Int).length) (z := 1) rfl (by decide)) rfl rfl hb
          replace A : HH g h15 [.lst (some h13.size) 3 ([.int .i64 x35]), .obj bp0 (.cells none 2 [.str x36.s_, .int .i64 x36.at_, .bool x36.extended_, rowV r8 x37.length, .int .i64 x36.t_.Root, .int .i64 x36.groups_, .int .i64 x36.depth_, .int .i64 x36.wrong_, .bool x36.full_]), .lst r8 45 (lst e_S_tree_Node x37), .lst r9 3 (lst (eI .i64) (x1 ++ ([x35] : List Int)))] F := A1
          replace A : HH g h15 [.obj bp0 (.cells none 2 [.str x36.s_, .int .i64 x36.at_, .bool x36.extended_, rowV r8 x37.length, .int .i64 x36.t_.Root, .int .i64 x36.groups_, .int .i64 x36.depth_, .int .i64 x36.wrong_, .bool x36.full_]), .lst r8 45 (lst e_S_tree_Node x37), .lst r9 3 (lst (eI .i64) (x1 ++ ([x35] : List Int)))] F := (HH.dropF (((A.front 3 rfl).front 3 rfl).front 3 rfl) 3)
          refine at_step (v := rowV r9 ((x1 ++ ([x35] : List Int)).length)) (h1 := h15) [(0, .ptr (some (bp0, 0))), (91, rowV r9 ((x1 ++ ([x35] : List Int)).length))] H (fun fr => by kernel_rfl) (fun fr => .of (s_app (s := rowS r1 x1.length) (by kernel_rfl) hx)) ?_
          intro fr t H
          refine at_seg [(6, [])] [(0, .ptr (some (bp0, 0))), (3, rowV r9 ((x1 ++ ([x35] : List Int)).length))] H (noU_all rfl) (fun fr => by kernel_rfl) ?_
          intro fr H
          refine at_nil ?_
          show AW cfg 20 g (right (right (left (right (left (right (right (right (left (right (left (left (left (right (right (right (bodyC cfg.P 20))))))))))))))))) fr h15 _
          refine aw_seq (by kernel_rfl) ?_
          refine aw_reg (id := 13) (n := 1) [(0, [])] (by kernel_rfl) (by kernel_rfl) ?_
          refine at_seg [(0, [])] [(0, .ptr (some (bp0, 0))), (3, rowV r9 ((x1 ++ ([x35] : List Int)).length)), (4, .bool true)] H (noU_all rfl) (fun fr => by kernel_rfl) ?_
          intro fr H
          refine at_nil ?_
          show AW cfg 20 g (right (right (right (left (right (left (right (right (right (left (right (left (left (left (right (right (right (bodyC cfg.P 20)))))))))))))))))) fr h15 _
          refine aw_exit (i := 1) (by kernel_rfl) ?_
          replace A : HH g h15 [.lst r9 3 (lst (eI .i64) (x1 ++ ([x35] : List Int))), .obj bp0 (.cells none 2 [.str x36.s_, .int .i64 x36.at_, .bool x36.extended_, rowV r8 x37.length, .int .i64 x36.t_.Root, .int .i64 x36.groups_, .int .i64 x36.depth_, .int .i64 x36.wrong_, .bool x36.full_]), .lst r8 45 (lst e_S_tree_Node x37)] F := (((A.front 1 rfl).front 1 rfl).front 2 rfl)
          exact Exists.intro ((x1 ++ ([x35] : List Int)), x36.s_, x36.at_, x36.extended_, x36.t_.Root, x36.groups_, x36.depth_, x36.wrong_, x36.full_, x37, true) (And.intro (Option.some.inj hm).symm ⟨(x1 ++ ([x35] : List Int)), x36.s_, x36.at_, x36.extended_, x36.t_.Root, x36.groups_, x36.depth_, x36.wrong_, x36.full_, x37, true, rfl, r9, r8, H.less _ (fun fr => by kernel_rfl), A⟩)
         ·replace H := H.know 78 hb (by kernel_rfl)
          refine aw_false (x := .tmp 78) (by kernel_rfl) H (fun fr => by kernel_rfl) ?_
          refine aw_skip (by kernel_rfl) ?_
          show AW cfg 20 g (right (right (right (right (left (right (left (left (left (right (right (right (bodyC cfg.P 20))))))))))))) fr h11 _
          refine aw_seq (by kernel_rfl) ?_
          refine aw_reg (id := 14) (n := 3) [(0, []), (1, []), (2, [])] (by kernel_rfl) (by kernel_rfl) ?_
          refine at_seg [(0, [])] [(0, .ptr (some (bp0, 0))), (3, rowV r1 x1.length), (5, .int .i64 x3), (92, .ptr (some (bp0, 0)))] H (noU_all rfl) (fun fr => by kernel_rfl) ?_
          intro fr H
          have A1 := A.cut 2
          obtain ⟨⟨x38, x39, x40⟩, hx, hm⟩ := bind_some hm
          obtain ⟨v1, h16, hr, r10, rfl, A1⟩ := hS.ok_rex_walk_atom_sPO (av := [.ptr (some (bp0, 0))]) hx (by kernel_rfl) A1
          replace A : HH g h16 [.obj bp0 (.cells none 2 [.str x39.s_, .int .i64 x39.at_, .bool x39.extended_, rowV r10 x40.length, .int .i64 x39.t_.Root, .int .i64 x39.groups_, .int .i64 x39.depth_, .int .i64 x39.wrong_, .bool x39.full_]), .lst r10 45 (lst e_S_tree_Node x40), .lst r1 3 (lst (eI .i64) x1)] F := A.glue0 (n := 2) A1
          refine at_step (v := .int .i64 x38) (h1 := h16) [(0, .ptr (some (bp0, 0))), (3, rowV r1 x1.length), (5, .int .i64 x3), (93, .int .i64 x38)] H (fun fr => by kernel_rfl) (fun fr => Steps.call (by kernel_rfl) hr) ?_
          intro fr t H
          refine at_seg [(2, [])] [(0, .ptr (some (bp0, 0))), (3, rowV r1 x1.length), (5, .int .i64 x3), (7, .int .i64 x38)] H (noU_all rfl) (fun fr => by kernel_rfl) ?_
          intro fr H
          refine at_nil ?_
          show AW cfg 20 g (right (right (right (right (right (left (right (left (left (left (right (right (right (bodyC cfg.P 20)))))))))))))) fr h16 _
          refine aw_seq (by kernel_rfl) ?_
          refine aw_seq (by kernel_rfl) ?_
          refine aw_reg (id := 15) (n := 3) [(0, []), (1, []), (2, [])] (by kernel_rfl) (by kernel_rfl) ?_
          refine at_seg [(0, [])] [(0, .ptr (some (bp0, 0))), (3, rowV r1 x1.length), (5, .int .i64 x3), (7, .int .i64 x38), (94, .ptr (some (bp0, 0)))] H (noU_all rfl) (fun fr => by kernel_rfl) ?_
          intro fr H
          have A1 := A.cut 2
          obtain ⟨x41, hx, hm⟩ := bind_some hm
          obtain ⟨v1, h17, hr, rfl, A1⟩ := ok_rex_walk_ok_sPO (av := [.ptr (some (bp0, 0))]) hx (by kernel_rfl) A1
          replace A : HH g h17 [.obj bp0 (.cells none 2 [.str x39.s_, .int .i64 x39.at_, .bool x39.extended_, rowV r10 x40.length, .int .i64 x39.t_.Root, .int .i64 x39.groups_, .int .i64 x39.depth_, .int .i64 x39.wrong_, .bool x39.full_]), .lst r10 45 (lst e_S_tree_Node x40), .lst r1 3 (lst (eI .i64) x1)] F := A.glue0 (n := 2) A1
          refine at_step (v := .bool x41) (h1 := h17) [(0, .ptr (some (bp0, 0))), (3, rowV r1 x1.length), (5, .int .i64 x3), (7, .int .i64 x38), (95, .bool x41)] H (fun fr => by kernel_rfl) (fun fr => Steps.call (by kernel_rfl) hr) ?_
          intro fr t H
          refine at_seg [(2, [])] [(0, .ptr (some (bp0, 0))), (3, rowV r1 x1.length), (5, .int .i64 x3), (7, .int .i64 x38), (96, .bool (!x41))] H (noU_all rfl) (fun fr => by kernel_rfl) ?_
          intro fr H
          refine at_nil ?_
          show AW cfg 20 g (right (left (right (right (right (right (right (left (right (left (left (left (right (right (right (bodyC cfg.P 20)))))))))))))))) fr h17 _
          rcases iteB_some hm with ⟨hb, hm⟩ | ⟨hb, hm⟩
          ·replace H := H.know 96 hb (by kernel_rfl)
           refine aw_true (x := .tmp 96) (by kernel_rfl) H (fun fr => by kernel_rfl) ?_
           refine aw_exit (i := 0) (by kernel_rfl) ?_
           replace A : HH g h17 [.lst r1 3 (lst (eI .i64) x1), .obj bp0 (.cells none 2 [.str x39.s_, .int .i64 x39.at_, .bool x39.extended_, rowV r10 x40.length, .int .i64 x39.t_.Root, .int .i64 x39.groups_, .int .i64 x39.depth_, .int .i64 x39.wrong_, .bool x39.full_]), .lst r10 45 (lst e_S_tree_Node x40)] F := (((A.front 1 rfl).front 1 rfl).front 2 rfl)
           exact Exists.intro _ (And.intro (Option.some.inj hm).symm (fun e => Or.inl ⟨x1, x39.s_, x39.at_, x39.extended_, x39.t_.Root, x39.groups_, x39.depth_, x39.wrong_, x39.full_, x40, rfl, e, r1, r10, H.less _ (fun fr => by kernel_rfl), A⟩))
          ·replace H := H.know 96 hb (by kernel_rfl)
           refine aw_false (x := .tmp 96) (by kernel_rfl) H (fun fr => by kernel_rfl) ?_
           refine aw_skip (by kernel_rfl) ?_
           show AW cfg 20 g (right (right (right (right (right (right (left (right (left (left (left (right (right (right (bodyC cfg.P 20))))))))))))))) fr h17 _
           refine aw_seq (by kernel_rfl) ?_
           refine aw_seq (by kernel_rfl) ?_
           refine aw_reg (id := 16) (n := 6) [(0, []), (1, []), (2, []), (3, []), (4, []), (5, [])] (by kernel_rfl) (by kernel_rfl) ?_
           refine at_seg [(0, []), (1, []), (2, [])] [(0, .ptr (some (bp0, 0))), (3, rowV r1 x1.length), (5, .int .i64 x3), (7, .int .i64 x38), (99, .ptr (some (bp0, 1)))] H (noU_all rfl) (fun fr => by kernel_rfl) ?_
           intro fr H
           refine at_step (v := .int .i64 x39.at_) (h1 := h17) [(0, .ptr (some (bp0, 0))), (3, rowV r1 x1.length), (5, .int .i64 x3), (7, .int .i64 x38), (100, .int .i64 x39.at_)] H (fun fr => by kernel_rfl) (fun fr => .of (s_ld (by kernel_rfl) (A.ld1 0 rfl (o := 1) rfl))) ?_
           intro fr t H
           refine at_seg [(4, []), (5, [])] [(0, .ptr (some (bp0, 0))), (3, rowV r1 x1.length), (5, .int .i64 x3), (7, .int .i64 x38), (102, .bool (x39.at_ == x3))] H (noU_all rfl) (fun fr => by kernel_rfl) ?_
           intro fr H
           refine at_nil ?_
           show AW cfg 20 g (right (left (right (right (right (right (right (right (left (right (left (left (left (right (right (right (bodyC cfg.P 20))))))))))))))))) fr h17 _
           rcases iteB_some hm with ⟨hb, hm⟩ | ⟨hb, hm⟩
           ·replace H := H.know 102 hb (by kernel_rfl)
            refine aw_true (x := .tmp 102) (by kernel_rfl) H (fun fr => by kernel_rfl) ?_
            refine aw_seq (by kernel_rfl) ?_
            refine aw_reg (id := 17) (n := 3) [(0, []), (1, []), (2, [])] (by kernel_rfl) (by kernel_rfl) ?_
            refine at_seg [(0, []), (1, [])] [(0, .ptr (some (bp0, 0))), (3, rowV r1 x1.length), (103, .ptr (some (bp0, 0))), (104, .int .i64 x3)] H (noU_all rfl) (fun fr => by kernel_rfl) ?_
            intro fr H
            have A1 := A.cut 2
            obtain ⟨x42, hx, hm⟩ := bind_some hm
            obtain ⟨v1, h18, hr, rfl, A1⟩ := ok_rex_walk_fail_sPOI (av := [.ptr (some (bp0, 0)), .int .i64 x3]) hx (by kernel_rfl) A1
            replace A : HH g h18 [.obj bp0 (.cells none 2 [.str x42.s_, .int .i64 x42.at_, .bool x42.extended_, rowV r10 x40.length, .int .i64 x42.t_.Root, .int .i64 x42.groups_, .int .i64 x42.depth_, .int .i64 x42.wrong_, .bool x42.full_]), .lst r10 45 (lst e_S_tree_Node x40), .lst r1 3 (lst (eI .i64) x1)] F := A.glue0 (n := 2) A1
            refine at_step (v := .tuple []) (h1 := h18) [(0, .ptr (some (bp0, 0))), (3, rowV r1 x1.length)] H (fun fr => by kernel_rfl) (fun fr => Steps.call (by kernel_rfl) hr) ?_
            intro fr t H
            refine at_nil ?_
            show AW cfg 20 g (right (left (right (left (right (right (right (right (right (right (left (right (left (left (left (right (right (right (bodyC cfg.P 20))))))))))))))))))) fr h18 _
            refine aw_exit (i := 0) (by kernel_rfl) ?_
            replace A : HH g h18 [.lst r1 3 (lst (eI .i64) x1), .obj bp0 (.cells none 2 [.str x42.s_, .int .i64 x42.at_, .bool x42.extended_, rowV r10 x40.length, .int .i64 x42.t_.Root, .int .i64 x42.groups_, .int .i64 x42.depth_, .int .i64 x42.wrong_, .bool x42.full_]), .lst r10 45 (lst e_S_tree_Node x40)] F := (((A.front 1 rfl).front 1 rfl).front 2 rfl)
            exact Exists.intro _ (And.intro (Option.some.inj hm).symm (fun e => Or.inl ⟨x1, x42.s_, x42.at_, x42.extended_, x42.t_.Root, x42.groups_, x42.depth_, x42.wrong_, x42.full_, x40, rfl, e, r1, r10, H.less _ (fun fr => by kernel_rfl), A⟩))
           ·replace H := H.know 102 hb (by kernel_rfl)
            refine aw_false (x := .tmp 102) (by kernel_rfl) H (fun fr => by kernel_rfl) ?_
            refine aw_skip (by kernel_rfl) ?_
            show AW cfg 20 g (right (right (right (right (right (right (right (left (right (left (left (left (right (right (right (bodyC cfg.P 20)))))))))))))))) fr h17 _
            refine aw_seq (by kernel_rfl) ?_
            refine aw_reg (id := 18) (n := 7) [(0, []), (1, []), (2, []), (3, []), (4, []), (5, []), (6, [])] (by kernel_rfl) (by kernel_rfl) ?_
            refine at_seg [(0, []), (1, []), (2, [])] [(0, .ptr (some (bp0, 0))), (106, rowV r1 x1.length), (107, .ptr (some (bp0, 0))), (108, .int .i64 x38)] H (noU_all rfl) (fun fr => by kernel_rfl) ?_
            intro fr H
            have A1 := A.cut 2
            obtain ⟨⟨x43, x44, x45⟩, hx, hm⟩ := bind_some hm
            obtain ⟨v1, h19, hr, r11, rfl, A1⟩ := ok_rex_walk_repeats_sPOI (av := [.ptr (some (bp0, 0)), .int .i64 x38]) hx (by kernel_rfl) A1
            replace A : HH g h19 [.obj bp0 (.cells none 2 [.str x44.s_, .int .i64 x44.at_, .bool x44.extended_, rowV r11 x45.length, .int .i64 x44.t_.Root, .int .i64 x44.groups_, .int .i64 x44.depth_, .int .i64 x44.wrong_, .bool x44.full_]), .lst r11 45 (lst e_S_tree_Node x45), .lst r1 3 (lst (eI .i64) x1)] F := A.glue0 (n := 2) A1
            refine at_step (v := .int .i64 x43) (h1 := h19) [(0, .ptr (some (bp0, 0))), (106, rowV r1 x1.length), (109, .int .i64 x43)] H (fun fr => by kernel_rfl) (fun fr => Steps.call (by kernel_rfl) hr) ?_
            intro fr t H
            obtain ⟨h20, e3⟩ : ∃ x, x = h19.push (.cells (some 3) 2 [.int .i64 x43]) := ⟨_, rfl⟩
            replace A := (A.pushL _ _).to e3
            refine at_step (v := rowV (some h19.size) (([x43] : List Int).length)) (h1 := h20) [(0, .ptr (some (bp0, 0))), (106, rowV r1 x1.length), (110, rowV (some h19.size) (([x43] : List Int).length))] H (fun fr => by kernel_rfl) (fun fr => .of (s_n' (by kernel_rfl) (congrArg some e3.symm))) ?_
            intro fr t H
            obtain ⟨hb, hm⟩ := need_some hm
            obtain ⟨r12, h21, hx, A1⟩ := HH.appO (encI .i64) (by decide) A 3 (xs := x1) (ys := ([x43] : List Int)) rfl (row_first A 0 rfl (n := ([x43] : List Int).length) (z := 1) rfl (by decide)) rfl rfl hb
            replace A : HH g h21 [.lst (some h19.size) 3 ([.int .i64 x43]), .obj bp0 (.cells none 2 [.str x44.s_, .int .i64 x44.at_, .bool x44.extended_, rowV r11 x45.length, .int .i64 x44.t_.Root, .int .i64 x44.groups_, .int .i64 x44.depth_, .int .i64 x44.wrong_, .bool x44.full_]), .lst r11 45 (lst e_S_tree_Node x45), .lst r12 3 (lst (eI .i64) (x1 ++ ([x43] : List Int)))] F := A1
            replace A : HH g h21 [.obj bp0 (.cells none 2 [.str x44.s_, .int .i64 x44.at_, .bool x44.extended_, rowV r11 x45.length, .int .i64 x44.t_.Root, .int .i64 x44.groups_, .int .i64 x44.depth_, .int .i64 x44.wrong_, .bool x44.full_]), .lst r11 45 (lst e_S_tree_Node x45), .lst r12 3 (lst (eI .i64) (x1 ++ ([x43] : List Int)))] F := (HH.dropF (((A.front 3 rfl).front 3 rfl).front 3 rfl) 3)
            refine at_step (v := rowV r12 ((x1 ++ ([x43] : List Int)).length)) (h1 := h21) [(0, .ptr (some (bp0, 0))), (111, rowV r12 ((x1 ++ ([x43] : List Int)).length))] H (fun fr => by kernel_rfl) (fun fr => .of (s_app (s := rowS r1 x1.length) (by kernel_rfl) hx)) ?_
            intro fr t H
            refine at_seg [(6, [])] [(0, .ptr (some (bp0, 0))), (3, rowV r12 ((x1 ++ ([x43] : List Int)).length))] H (noU_all rfl) (fun fr => by kernel_rfl) ?_
            intro fr H
            refine at_nil ?_
            show AW cfg 20 g (right (right (right (right (right (right (right (right (left (right (left (left (left (right (right (right (bodyC cfg.P 20))))))))))))))))) fr h21 _
            refine aw_reg (id := 19) (n := 1) [(0, [])] (by kernel_rfl) (by kernel_rfl) ?_
            refine at_seg [(0, [])] [(0, .ptr (some (bp0, 0))), (3, rowV r12 ((x1 ++ ([x43] : List Int)).length)), (4, .bool false)] H (noU_all rfl) (fun fr => by kernel_rfl) ?_
            intro fr H
            refine at_nil ?_
            replace A : HH g h21 [.lst r12 3 (lst (eI .i64) (x1 ++ ([x43] : List Int))), .obj bp0 (.cells none 2 [.str x44.s_, .int .i64 x44.at_, .bool x44.extended_, rowV r11 x45.length, .int .i64 x44.t_.Root, .int .i64 x44.groups_, .int .i64 x44.depth_, .int .i64 x44.wrong_, .bool x44.full_]), .lst r11 45 (lst e_S_tree_Node x45)] F := (((A.front 1 rfl).front 1 rfl).front 2 rfl)
            exact Exists.intro ((x1 ++ ([x43] : List Int)), x44.s_, x44.at_, x44.extended_, x44.t_.Root, x44.groups_, x44.depth_, x44.wrong_, x44.full_, x45, false) (And.intro (Option.some.inj hm).symm ⟨(x1 ++ ([x43] : List Int)), x44.s_, x44.at_, x44.extended_, x44.t_.Root, x44.groups_, x44.depth_, x44.wrong_, x44.full_, x45, false, rfl, r12, r11, H.less _ (fun fr => by kernel_rfl), A⟩)
   ·replace H := H.know 14 hb (by kernel_rfl)
    refine aw_false (x := .tmp 14) (by kernel_rfl) H (fun fr => by kernel_rfl) ?_
    refine aw_exit (i := 0) (by kernel_rfl) ?_
    replace A : HH g h3 [.lst r1 3 (lst (eI .i64) x1), .obj bp0 (.cells none 2 [.str x2, .int .i64 x3, .bool x4, rowV r2 x10.length, .int .i64 x5, .int .i64 x6, .int .i64 x7, .int .i64 x8, .bool x9]), .lst r2 45 (lst e_S_tree_Node x10)] F := (((A.front 1 rfl).front 1 rfl).front 2 rfl)
    exact Exists.intro _ (And.intro (Option.some.inj hm).symm (fun e => Or.inl ⟨x1, x2, x3, x4, x5, x6, x7, x8, x9, x10, rfl, e, r1, r2, H.less _ (fun fr => by kernel_rfl), A⟩))
 ·clear ho
  clear A
  intro e fr h22 hQ
  rcases hQ with ⟨x12, x13, x14, x15, x16, x17, x18, x19, x20, x21, rfl, rfl, r3, r4, H, A⟩ | hF
  ·skip
   show AW cfg 20 g (right (right (right (right (bodyC cfg.P 20))))) fr h22 _
   refine aw_seq (by kernel_rfl) ?_
   refine aw_reg (id := 20) (n := 4) [(0, []), (1, []), (2, []), (3, [])] (by kernel_rfl) (by kernel_rfl) ?_
   refine at_seg [(0, []), (1, [])] [(112, .ptr (some (bp0, 0))), (113, rowV r3 x12.length)] H (noU_all rfl) (fun fr => by kernel_rfl) ?_
   intro fr H
   replace A : HH g h22 [.obj bp0 (.cells none 2 [.str x13, .int .i64 x14, .bool x15, rowV r4 x21.length, .int .i64 x16, .int .i64 x17, .int .i64 x18, .int .i64 x19, .bool x20]), .lst r4 45 (lst e_S_tree_Node x21), .lst r3 3 (lst (eI .i64) x12)] F := (((A.front 0 rfl).front 2 rfl).front 2 rfl)
   have A1 := A.cut 3
   obtain ⟨⟨x46, x47, x48⟩, hx, hm⟩ := bind_some hm
   obtain ⟨v1, h23, hr, r13, rfl, A1⟩ := ok_rex_walk_nest_sPOIO (av := [.ptr (some (bp0, 0)), .int .i64 (2 : Int), rowV r3 x12.length]) hx (by kernel_rfl) A1
   replace A : HH g h23 [.obj bp0 (.cells none 2 [.str x47.s_, .int .i64 x47.at_, .bool x47.extended_, rowV r13 x48.length, .int .i64 x47.t_.Root, .int .i64 x47.groups_, .int .i64 x47.depth_, .int .i64 x47.wrong_, .bool x47.full_]), .lst r13 45 (lst e_S_tree_Node x48), .lst r3 3 (lst (eI .i64) x12)] F := A.glue0 (n := 3) A1
   refine at_step (v := .int .i64 x46) (h1 := h23) [(114, .int .i64 x46)] H (fun fr => by kernel_rfl) (fun fr => Steps.call (by kernel_rfl) hr) ?_
   intro fr t H
   refine at_seg [(3, [])] [(2, .int .i64 x46)] H (noU_all rfl) (fun fr => by kernel_rfl) ?_
   intro fr H
   refine at_nil ?_
   show AW cfg 20 g (right (right (right (right (right (bodyC cfg.P 20)))))) fr h23 _
   refine aw_ret (by kernel_rfl) ?_
   have e0 := Option.some.inj hm
   obtain ⟨y0, z0⟩ := Prod.mk.inj e0
   obtain ⟨y1, z1⟩ := Prod.mk.inj z0
   subst y0
   subst y1
   subst z1
   refine ⟨.inl rfl, .int .i64 x46, resH H (fun fr => by kernel_rfl), ?_⟩
   replace A : HH g h23 [.obj bp0 (.cells none 2 [.str x47.s_, .int .i64 x47.at_, .bool x47.extended_, rowV r13 x48.length, .int .i64 x47.t_.Root, .int .i64 x47.groups_, .int .i64 x47.depth_, .int .i64 x47.wrong_, .bool x47.full_]), .lst r13 45 (lst e_S_tree_Node x48)] F := (HH.dropF ((A.front 1 rfl).front 1 rfl) 2)
   exact ⟨r13, rfl, A⟩
  ·exact hF.elim
/-! ### (*boulter/rex.walk).atom -/
noncomputable def B_rex_walk_atom_sPO (S : SC_rex_walk_group_sPO) (p0 : S_rex_walk) : Option (Int × S_rex_walk × (List S_tree_Node)) :=
 (ixS p0.s_ p0.at_).bind fun x1 => iteB (x1 == (91 : Int)) (none) (iteB (x1 == (46 : Int)) (none) ((iteB (x1 == (36 : Int)) ((iteB p0.extended_ (some true) ((M_rex_walk_back_sPO p0).bind fun x4 => some x4) : Option (Bool)).bind fun x3 => some x3) (some false) : Option (Bool)).bind fun x2 => iteB x2 ((M_rex_walk_add_sPOR (⟨p0.s_, IntKind.i64.wrap (p0.at_ + (1 : Int)), p0.extended_, p0.t_, p0.groups_, p0.depth_, p0.wrong_, p0.full_⟩ : S_rex_walk) (⟨(7 : Int), (0 : Int), (0 : Int), (0 : Int), (0 : Int), (0 : Int), (⟨(0 : Int), (0 : Int), (0 : Int), (0 : Int)⟩ : A4_uint64)⟩ : S_tree_Node)).bind fun (x5, x6, x7) => some (x5, (⟨x6.s_, x6.at_, x6.extended_, (⟨x7, x6.t_.Root⟩ : S_tree_Tree), x6.groups_, x6.depth_, x6.wrong_, x6.full_⟩ : S_rex_walk), x7)) (iteB ((x1 == (94 : Int)) && p0.extended_) ((M_rex_walk_add_sPOR (⟨p0.s_, IntKind.i64.wrap (p0.at_ + (1 : Int)), p0.extended_, p0.t_, p0.groups_, p0.depth_, p0.wrong_, p0.full_⟩ : S_rex_walk) (⟨(6 : Int), (0 : Int), (0 : Int), (0 : Int), (0 : Int), (0 : Int), (⟨(0 : Int), (0 : Int), (0 : Int), (0 : Int)⟩ : A4_uint64)⟩ : S_tree_Node)).bind fun (x8, x9, x10) => some (x8, (⟨x9.s_, x9.at_, x9.extended_, (⟨x10, x9.t_.Root⟩ : S_tree_Tree), x9.groups_, x9.depth_, x9.wrong_, x9.full_⟩ : S_rex_walk), x10)) ((M_rex_walk_next_sPOS p0 ([40] : List UInt8)).bind fun (x11, x12) => iteB x11 ((S.M_rex_walk_group_sPO (⟨x12.s_, x12.at_, x12.extended_, (⟨p0.t_.Nodes, x12.t_.Root⟩ : S_tree_Tree), x12.groups_, x12.depth_, x12.wrong_, x12.full_⟩ : S_rex_walk)).bind fun (x13, x14, x15) => some (x13, (⟨x14.s_, x14.at_, x14.extended_, (⟨x15, x14.t_.Root⟩ : S_tree_Tree), x14.groups_, x14.depth_, x14.wrong_, x14.full_⟩ : S_rex_walk), x15)) (iteB (x1 == (92 : Int)) (none) ((iteB x12.extended_ (((iteB (x1 == (42 : Int)) (some true) (some (x1 == (43 : Int))) : Option ((Bool))).bind fun x17 => iteB x17 (some (.inl ())) ((iteB (x1 == (63 : Int)) (some true) (some (x1 == (123 : Int))) : Option ((Bool))).bind fun x18 => iteB x18 (some (.inl ())) ((iteB (x1 == (124 : Int)) (some true) (some (x1 == (41 : Int))) : Option ((Bool))).bind fun x19 => iteB x19 (some (.inl ())) (some (.inr ())))) : Option ((Unit) ⊕ (Unit))).bind fun o2 => (match o2 with | .inl _ => some (.inr (0 : Int)) | .inr _ => some (.inl ()))) (some (.inl ())) : Option ((Unit) ⊕ (Int))).bind fun o1 => (match o1 with | .inl _ => (M_rex_walk_one_sPOI (⟨x12.s_, IntKind.i64.wrap (x12.at_ + (1 : Int)), x12.extended_, (⟨p0.t_.Nodes, x12.t_.Root⟩ : S_tree_Tree), x12.groups_, x12.depth_, x12.wrong_, x12.full_⟩ : S_rex_walk) x1).bind fun (x20, x21, x22) => some (x20, (⟨x21.s_, x21.at_, x21.extended_, (⟨x22, x21.t_.Root⟩ : S_tree_Tree), x21.groups_, x21.depth_, x21.wrong_, x21.full_⟩ : S_rex_walk), x22) | .inr x16 => some (x16, (⟨x12.s_, x12.at_, x12.extended_, (⟨p0.t_.Nodes, x12.t_.Root⟩ : S_tree_Tree), x12.groups_, x12.depth_, x12.wrong_, x12.full_⟩ : S_rex_walk), p0.t_.Nodes))))))))
theorem okB_rex_walk_atom_sPO {S : SC_rex_walk_group_sPO} (hS : OkSC_rex_walk_group_sPO S) {g : Gd} {h : AHeap} {F : List Ck} {p0 : S_rex_walk} {bp0 : Nat} {rp0_3 : Option Nat} {q0 : Int} {u0 : S_rex_walk} {u1 : List S_tree_Node} {av : List AVal} (hm : B_rex_walk_atom_sPO S p0 = some (q0, u0, u1)) (hc : canL (cfg.still 32) av = [.ptr (some (bp0, 0))]) (A : HH g h [.obj bp0 (.cells none 2 [.str p0.s_, .int .i64 p0.at_, .bool p0.extended_, rowV rp0_3 p0.t_.Nodes.length, .int .i64 p0.t_.Root, .int .i64 p0.groups_, .int .i64 p0.depth_, .int .i64 p0.wrong_, .bool p0.full_]), .lst rp0_3 45 (lst e_S_tree_Node p0.t_.Nodes)] F) : ∃ v h', Runs cfg g h 32 av v h' ∧ ∃ (r'1 : Option Nat), v = .int .i64 q0 ∧ HH g h' [.obj bp0 (.cells none 2 [.str u0.s_, .int .i64 u0.at_, .bool u0.extended_, rowV r'1 u1.length, .int .i64 u0.t_.Root, .int .i64 u0.groups_, .int .i64 u0.depth_, .int .i64 u0.wrong_, .bool u0.full_]), .lst r'1 45 (lst e_S_tree_Node u1)] F := by
 refine runsQ1 (n := 138) (rs := [.tmp 2]) (by kernel_rfl) hc (by kernel_rfl) ?_
 clear hc
 unfold B_rex_walk_atom_sPO at hm
 refine start (n := 138) [(0, .ptr (some (bp0, 0)))] (by kernel_rfl) (by kernel_rfl) ?_
 intro fr H
 refine aw_seq (by kernel_rfl) ?_
 refine aw_reg (id := 0) (n := 1) [(0, [])] (by kernel_rfl) (by kernel_rfl) ?_
 refine at_seg [(0, [])] [(0, .ptr (some (bp0, 0)))] H (noU_all rfl) (fun fr => by kernel_rfl) ?_
 intro fr H
 refine at_nil ?_
 show AW cfg 32 g (right (bodyC cfg.P 32)) fr h _
 refine aw_seq (by kernel_rfl) ?_
 refine aw_draw (id := 1) (n := 10) (by kernel_rfl) [(0, []), (1, []), (2, []), (3, []), (4, []), (5, []), (6, []), (7, []), (8, []), (9, [])] (by kernel_rfl) ?_
 refine at_seg [(0, []), (1, []), (2, [])] [(0, .ptr (some (bp0, 0))), (9, .ptr (some (bp0, 0)))] H (noU_all rfl) (fun fr => by kernel_rfl) ?_
 intro fr H
 refine at_step (v := .str p0.s_) (h1 := h) [(0, .ptr (some (bp0, 0))), (10, .str p0.s_)] H (fun fr => by kernel_rfl) (fun fr => .of (s_ld (by kernel_rfl) (A.ld1 0 rfl (o := 0) rfl))) ?_
 intro fr t H
 refine at_seg [(4, []), (5, []), (6, [])] [(0, .ptr (some (bp0, 0))), (10, .str p0.s_), (13, .ptr (some (bp0, 1)))] H (noU_all rfl) (fun fr => by kernel_rfl) ?_
 intro fr H
 refine at_step (v := .int .i64 p0.at_) (h1 := h) [(0, .ptr (some (bp0, 0))), (10, .str p0.s_), (14, .int .i64 p0.at_)] H (fun fr => by kernel_rfl) (fun fr => .of (s_ld (by kernel_rfl) (A.ld1 0 rfl (o := 1) rfl))) ?_
 intro fr t H
 obtain ⟨x1, hx, hm⟩ := bind_some hm
 refine at_step (v := .int .u8 x1) (h1 := h) [(0, .ptr (some (bp0, 0))), (15, .int .u8 x1)] H (fun fr => by kernel_rfl) (fun fr => .of (s_ixS (by kernel_rfl) hx)) ?_
 intro fr t H
 refine at_seg [(9, [])] [(0, .ptr (some (bp0, 0))), (3, .int .u8 x1)] H (noU_all rfl) (fun fr => by kernel_rfl) ?_
 intro fr H
 refine at_nil ?_
 show AW cfg 32 g (right (right (bodyC cfg.P 32))) fr h _
 refine aw_seq (by kernel_rfl) ?_
 refine aw_block (id := 0) (by kernel_rfl) ?_
 refine aw_seq (by kernel_rfl) ?_
 refine aw_reg (id := 2) (n := 3) [(0, []), (1, []), (2, [])] (by kernel_rfl) (by kernel_rfl) ?_
 refine at_seg [(0, []), (1, []), (2, [])] [(0, .ptr (some (bp0, 0))), (3, .int .u8 x1), (16, .bool (x1 == (91 : Int)))] H (noU_all rfl) (fun fr => by kernel_rfl) ?_
 intro fr H
 refine at_nil ?_
 show AW cfg 32 g (right (left (left (right (right (bodyC cfg.P 32)))))) fr h _
 rcases iteB_some hm with ⟨hb, hm⟩ | ⟨hb, hm⟩
 ·replace H := H.know 16 hb (by kernel_rfl)
  refine aw_true (x := .tmp 16) (by kernel_rfl) H (fun fr => by kernel_rfl) ?_
  refine aw_seq (by kernel_rfl) ?_
  refine aw_draw (id := 3) (n := 17) (by kernel_rfl) [(0, []), (1, []), (2, []), (3, []), (4, []), (5, []), (6, []), (7, []), (13, []), (8, [13]), (9, []), (10, []), (11, []), (12, []), (14, []), (15, []), (16, [])] (by kernel_rfl) ?_
  refine at_seg [(0, []), (1, []), (2, [])] [(0, .ptr (some (bp0, 0))), (22, .ptr (some (bp0, 0)))] H (noU_all rfl) (fun fr => by kernel_rfl) ?_
  intro fr H
  refine at_stepT (v := .str p0.s_) (h1 := h) (tch' := [(3, bp0)]) (g.prot) [(0, .ptr (some (bp0, 0))), (23, .str p0.s_)] H (fun fr => by kernel_rfl) (by kernel_rfl) (fun fr => by kernel_rfl) (fun fr => .of (s_ld (by kernel_rfl) (A.ld1 0 rfl (o := 0) rfl))) (fun fr => by kernel_rfl) ?_
  intro fr H
  refine at_seg [(4, []), (5, []), (6, [])] [(0, .ptr (some (bp0, 0))), (23, .str p0.s_), (26, .ptr (some (bp0, 1)))] H (noU_all rfl) (fun fr => by kernel_rfl) ?_
  intro fr H
  refine at_stepT (v := .int .i64 p0.at_) (h1 := h) (tch' := [(7, bp0), (3, bp0)]) (g.prot) [(0, .ptr (some (bp0, 0))), (23, .str p0.s_), (27, .int .i64 p0.at_)] H (fun fr => by kernel_rfl) (by kernel_rfl) (fun fr => by kernel_rfl) (fun fr => .of (s_ld (by kernel_rfl) (A.ld1 0 rfl (o := 1) rfl))) (fun fr => by kernel_rfl) ?_
  intro fr H
  obtain ⟨h1, e1⟩ : ∃ x, x = h.push (.cells none 2 [.int .u64 (0 : Int), .int .u64 (0 : Int), .int .u64 (0 : Int), .int .u64 (0 : Int)]) := ⟨_, rfl⟩
  replace A := (A.push _).to e1
  refine at_stepT (v := .ptr (some (h.size, 0))) (h1 := h1) (tch' := [(13, h.size), (7, bp0), (3, bp0)]) (g.prot) [(0, .ptr (some (bp0, 0))), (4, .ptr (some (h.size, 0))), (23, .str p0.s_), (27, .int .i64 p0.at_)] H (fun fr => by kernel_rfl) (by kernel_rfl) (fun fr => by kernel_rfl) (fun fr => .of (s_n' (by kernel_rfl) (congrArg some e1.symm))) (fun fr => by kernel_rfl) ?_
  intro fr H
  cases hm
 ·replace H := H.know 16 hb (by kernel_rfl)
  refine aw_false (x := .tmp 16) (by kernel_rfl) H (fun fr => by kernel_rfl) ?_
  refine aw_seq (by kernel_rfl) ?_
  refine aw_reg (id := 9) (n := 3) [(0, []), (1, []), (2, [])] (by kernel_rfl) (by kernel_rfl) ?_
  refine at_seg [(0, []), (1, []), (2, [])] [(0, .ptr (some (bp0, 0))), (3, .int .u8 x1), (48, .bool (x1 == (46 : Int)))] H (noU_all rfl) (fun fr => by kernel_rfl) ?_
  intro fr H
  refine at_nil ?_
  show AW cfg 32 g (right (right (right (left (left (right (right (bodyC cfg.P 32)))))))) fr h _
  rcases iteB_some hm with ⟨hb, hm⟩ | ⟨hb, hm⟩
  ·replace H := H.know 48 hb (by kernel_rfl)
   refine aw_true (x := .tmp 48) (by kernel_rfl) H (fun fr => by kernel_rfl) ?_
   refine aw_seq (by kernel_rfl) ?_
   refine aw_reg (id := 10) (n := 8) [(0, []), (1, []), (2, []), (3, []), (4, []), (5, []), (6, []), (7, [])] (by kernel_rfl) (by kernel_rfl) ?_
   refine at_seg [(0, []), (1, []), (2, [])] [(0, .ptr (some (bp0, 0))), (51, .ptr (some (bp0, 0))), (53, .ptr (some (bp0, 1)))] H (noU_all rfl) (fun fr => by kernel_rfl) ?_
   intro fr H
   refine at_step (v := .int .i64 p0.at_) (h1 := h) [(0, .ptr (some (bp0, 0))), (51, .ptr (some (bp0, 0))), (54, .int .i64 p0.at_)] H (fun fr => by kernel_rfl) (fun fr => .of (s_ld (by kernel_rfl) (A.ld1 0 rfl (o := 1) rfl))) ?_
   intro fr t H
   refine at_seg [(4, []), (5, []), (6, [])] [(0, .ptr (some (bp0, 0))), (55, .int .i64 (IntKind.i64.wrap (p0.at_ + (1 : Int)))), (57, .ptr (some (bp0, 1)))] H (noU_all rfl) (fun fr => by kernel_rfl) ?_
   intro fr H
   obtain ⟨h2, hx, A1⟩ := A.st 0 rfl (o := 1) (new := [.int .i64 (IntKind.i64.wrap (p0.at_ + (1 : Int)))]) (ds := [.str p0.s_, .int .i64 (IntKind.i64.wrap (p0.at_ + (1 : Int))), .bool p0.extended_, rowV rp0_3 p0.t_.Nodes.length, .int .i64 p0.t_.Root, .int .i64 p0.groups_, .int .i64 p0.depth_, .int .i64 p0.wrong_, .bool p0.full_]) (Nat.le_of_ble_eq_true rfl) rfl rfl
   replace A : HH g h2 [.obj bp0 (.cells none 2 [.str p0.s_, .int .i64 (IntKind.i64.wrap (p0.at_ + (1 : Int))), .bool p0.extended_, rowV rp0_3 p0.t_.Nodes.length, .int .i64 p0.t_.Root, .int .i64 p0.groups_, .int .i64 p0.depth_, .int .i64 p0.wrong_, .bool p0.full_]), .lst rp0_3 45 (lst e_S_tree_Node p0.t_.Nodes)] F := A1
   refine at_step (v := .tuple []) (h1 := h2) [(0, .ptr (some (bp0, 0)))] H (fun fr => by kernel_rfl) (fun fr => .of (s_st (by kernel_rfl) rfl hx)) ?_
   intro fr t H
   refine at_nil ?_
   show AW cfg 32 g (right (left (right (right (right (left (left (right (right (bodyC cfg.P 32)))))))))) fr h2 _
   refine aw_seq (by kernel_rfl) ?_
   refine aw_reg (id := 11) (n := 5) [(0, []), (1, []), (2, []), (3, []), (4, [])] (by kernel_rfl) (by kernel_rfl) ?_
   refine at_seg [(0, [])] [(58, .ptr (some (bp0, 0)))] H (noU_all rfl) (fun fr => by kernel_rfl) ?_
   intro fr H
   cases hm
  ·replace H := H.know 48 hb (by kernel_rfl)
   refine aw_false (x := .tmp 48) (by kernel_rfl) H (fun fr => by kernel_rfl) ?_
   refine aw_seq (by kernel_rfl) ?_
   refine aw_reg (id := 12) (n := 13) [(0, []), (1, []), (2, []), (3, []), (4, []), (5, []), (6, []), (7, []), (8, []), (9, []), (10, []), (11, []), (12, [])] (by kernel_rfl) (by kernel_rfl) ?_
   refine at_seg [(0, []), (1, []), (2, [])] [(0, .ptr (some (bp0, 0))), (3, .int .u8 x1), (65, .bool (x1 == (36 : Int)))] H (noU_all rfl) (fun fr => by kernel_rfl) ?_
   intro fr H
   obtain ⟨x2, ho, hm⟩ := bind_some hm
   refine at_cut [(3, []), (4, []), (5, []), (6, []), (7, []), (8, []), (9, []), (10, []), (11, [])] (fun fr' h' => Has fr' 138 [(0, .ptr (some (bp0, 0))), (3, .int .u8 x1), (74, .bool x2)] ∧ HH g h' [.obj bp0 (.cells none 2 [.str p0.s_, .int .i64 p0.at_, .bool p0.extended_, rowV rp0_3 p0.t_.Nodes.length, .int .i64 p0.t_.Root, .int .i64 p0.groups_, .int .i64 p0.depth_, .int .i64 p0.wrong_, .bool p0.full_]), .lst rp0_3 45 (lst e_S_tree_Node p0.t_.Nodes)] F) ?_ ?_
   ·rcases iteB_some ho with ⟨hb, hm⟩ | ⟨hb, hm⟩
    ·replace H := H.know 65 hb (by kernel_rfl)
     refine at_seg [(3, []), (4, []), (5, [])] [(0, .ptr (some (bp0, 0))), (3, .int .u8 x1), (65, .bool true), (68, .ptr (some (bp0, 2)))] H (noU_all rfl) (fun fr => by kernel_rfl) ?_
     intro fr H
     refine at_step (v := .bool p0.extended_) (h1 := h) [(0, .ptr (some (bp0, 0))), (3, .int .u8 x1), (65, .bool true), (69, .bool p0.extended_)] H (fun fr => by kernel_rfl) (fun fr => .of (s_ld (by kernel_rfl) (A.ld1 0 rfl (o := 2) rfl))) ?_
     intro fr t H
     refine at_seg [(7, [])] [(0, .ptr (some (bp0, 0))), (3, .int .u8 x1), (65, .bool true), (70, .bool p0.extended_)] H (noU_all rfl) (fun fr => by kernel_rfl) ?_
     intro fr H
     obtain ⟨x3, ho, hm⟩ := bind_some hm
     refine at_cut [(8, []), (9, []), (10, [])] (fun fr' h' => Has fr' 138 [(0, .ptr (some (bp0, 0))), (3, .int .u8 x1), (65, .bool true), (73, .bool x3)] ∧ HH g h' [.obj bp0 (.cells none 2 [.str p0.s_, .int .i64 p0.at_, .bool p0.extended_, rowV rp0_3 p0.t_.Nodes.length, .int .i64 p0.t_.Root, .int .i64 p0.groups_, .int .i64 p0.depth_, .int .i64 p0.wrong_, .bool p0.full_]), .lst rp0_3 45 (lst e_S_tree_Node p0.t_.Nodes)] F) ?_ ?_
     ·rcases iteB_some ho with ⟨hb, hm⟩ | ⟨hb, hm⟩
      ·replace H := H.know 70 hb (by kernel_rfl)
       refine at_seg [(8, []), (9, []), (10, [])] [(0, .ptr (some (bp0, 0))), (3, .int .u8 x1), (65, .bool true), (73, .bool true)] H (noU_all rfl) (fun fr => by kernel_rfl) ?_
       intro fr H
       have e1 := Option.some.inj hm
       subst e1
       exact at_nil ⟨H.less _ (fun fr => by kernel_rfl), A⟩
      ·replace H := H.know 70 hb (by kernel_rfl)
       refine at_seg [(8, [])] [(0, .ptr (some (bp0, 0))), (3, .int .u8 x1), (65, .bool true), (70, .bool false), (71, .ptr (some (bp0, 0)))] H (noU_all rfl) (fun fr => by kernel_rfl) ?_
       intro fr H
       have A1 := A.cut 2
       obtain ⟨x4, hx, hm⟩ := bind_some hm
       obtain ⟨v1, h5, hr, rfl, A1⟩ := ok_rex_walk_back_sPO (av := [.ptr (some (bp0, 0))]) hx (by kernel_rfl) A1
       replace A : HH g h5 [.obj bp0 (.cells none 2 [.str p0.s_, .int .i64 p0.at_, .bool p0.extended_, rowV rp0_3 p0.t_.Nodes.length, .int .i64 p0.t_.Root, .int .i64 p0.groups_, .int .i64 p0.depth_, .int .i64 p0.wrong_, .bool p0.full_]), .lst rp0_3 45 (lst e_S_tree_Node p0.t_.Nodes)] F := A.glue0 (n := 2) A1
       refine at_step (v := .bool x4) (h1 := h5) [(0, .ptr (some (bp0, 0))), (3, .int .u8 x1), (65, .bool true), (70, .bool false), (72, .bool x4)] H (fun fr => by kernel_rfl) (fun fr => Steps.call (by kernel_rfl) hr) ?_
       intro fr t H
       refine at_seg [(10, [])] [(0, .ptr (some (bp0, 0))), (3, .int .u8 x1), (65, .bool true), (73, .bool x4)] H (noU_all rfl) (fun fr => by kernel_rfl) ?_
       intro fr H
       have e1 := Option.some.inj hm
       subst e1
       exact at_nil ⟨H.less _ (fun fr => by kernel_rfl), A⟩
     ·clear A
      intro t fr h4 hK
      obtain ⟨H, A⟩ := hK
      refine at_seg [(11, [])] [(0, .ptr (some (bp0, 0))), (3, .int .u8 x1), (74, .bool x3)] H (noU_all rfl) (fun fr => by kernel_rfl) ?_
      intro fr H
      have e1 := Option.some.inj hm
      subst e1
      exact at_nil ⟨H.less _ (fun fr => by kernel_rfl), A⟩
    ·replace H := H.know 65 hb (by kernel_rfl)
     refine at_seg [(3, []), (4, []), (5, []), (6, []), (7, []), (8, []), (9, []), (10, []), (11, [])] [(0, .ptr (some (bp0, 0))), (3, .int .u8 x1), (74, .bool false)] H (noU_all rfl) (fun fr => by kernel_rfl) ?_
     intro fr H
     have e1 := Option.some.inj hm
     subst e1
     exact at_nil ⟨H.less _ (fun fr => by kernel_rfl), A⟩
   ·clear A
    intro t fr h3 hK
    obtain ⟨H, A⟩ := hK
    refine at_seg [(12, [])] [(0, .ptr (some (bp0, 0))), (3, .int .u8 x1), (62, .bool x2)] H (noU_all rfl) (fun fr => by kernel_rfl) ?_
    intro fr H
    refine at_nil ?_
    show AW cfg 32 g (right (right (right (right (right (left (left (right (right (bodyC cfg.P 32)))))))))) fr h3 _
    rcases iteB_some hm with ⟨hb, hm⟩ | ⟨hb, hm⟩
    ·replace H := H.know 62 hb (by kernel_rfl)
     refine aw_true (x := .tmp 62) (by kernel_rfl) H (fun fr => by kernel_rfl) ?_
     refine aw_seq (by kernel_rfl) ?_
     refine aw_reg (id := 13) (n := 8) [(0, []), (1, []), (2, []), (3, []), (4, []), (5, []), (6, []), (7, [])] (by kernel_rfl) (by kernel_rfl) ?_
     refine at_seg [(0, []), (1, []), (2, [])] [(0, .ptr (some (bp0, 0))), (75, .ptr (some (bp0, 0))), (77, .ptr (some (bp0, 1)))] H (noU_all rfl) (fun fr => by kernel_rfl) ?_
     intro fr H
     refine at_step (v := .int .i64 p0.at_) (h1 := h3) [(0, .ptr (some (bp0, 0))), (75, .ptr (some (bp0, 0))), (78, .int .i64 p0.at_)] H (fun fr => by kernel_rfl) (fun fr => .of (s_ld (by kernel_rfl) (A.ld1 0 rfl (o := 1) rfl))) ?_
     intro fr t H
     refine at_seg [(4, []), (5, []), (6, [])] [(0, .ptr (some (bp0, 0))), (79, .int .i64 (IntKind.i64.wrap (p0.at_ + (1 : Int)))), (81, .ptr (some (bp0, 1)))] H (noU_all rfl) (fun fr => by kernel_rfl) ?_
     intro fr H
     obtain ⟨h6, hx, A1⟩ := A.st 0 rfl (o := 1) (new := [.int .i64 (IntKind.i64.wrap (p0.at_ + (1 : Int)))]) (ds := [.str p0.s_, .int .i64 (IntKind.i64.wrap (p0.at_ + (1 : Int))), .bool p0.extended_, rowV rp0_3 p0.t_.Nodes.length, .int .i64 p0.t_.Root, .int .i64 p0.groups_, .int .i64 p0.depth_, .int .i64 p0.wrong_, .bool p0.full_]) (Nat.le_of_ble_eq_true rfl) rfl rfl
     replace A : HH g h6 [.obj bp0 (.cells none 2 [.str p0.s_, .int .i64 (IntKind.i64.wrap (p0.at_ + (1 : Int))), .bool p0.extended_, rowV rp0_3 p0.t_.Nodes.length, .int .i64 p0.t_.Root, .int .i64 p0.groups_, .int .i64 p0.depth_, .int .i64 p0.wrong_, .bool p0.full_]), .lst rp0_3 45 (lst e_S_tree_Node p0.t_.Nodes)] F := A1
     refine at_step (v := .tuple []) (h1 := h6) [(0, .ptr (some (bp0, 0)))] H (fun fr => by kernel_rfl) (fun fr => .of (s_st (by kernel_rfl) rfl hx)) ?_
     intro fr t H
     refine at_nil ?_
     show AW cfg 32 g (right (left (right (right (right (right (right (left (left (right (right (bodyC cfg.P 32)))))))))))) fr h6 _
     refine aw_seq (by kernel_rfl) ?_
     refine aw_reg (id := 14) (n := 4) [(0, []), (1, []), (2, []), (3, [])] (by kernel_rfl) (by kernel_rfl) ?_
     refine at_seg [(0, []), (1, [])] [(82, .ptr (some (bp0, 0))), (83, .agg [.int .i64 (7 : Int), .int .i64 (0 : Int), .int .i64 (0 : Int), .int .i64 (0 : Int), .int .i64 (0 : Int), .int .i64 (0 : Int), .int .u64 (0 : Int), .int .u64 (0 : Int), .int .u64 (0 : Int), .int .u64 (0 : Int)])] H (noU_all rfl) (fun fr => by kernel_rfl) ?_
     intro fr H
     have A1 := A.cut 2
     obtain ⟨⟨x5, x6, x7⟩, hx, hm⟩ := bind_some hm
     obtain ⟨v1, h7, hr, r1, rfl, A1⟩ := ok_rex_walk_add_sPOR (av := [.ptr (some (bp0, 0)), .agg [.int .i64 (7 : Int), .int .i64 (0 : Int), .int .i64 (0 : Int), .int .i64 (0 : Int), .int .i64 (0 : Int), .int .i64 (0 : Int), .int .u64 (0 : Int), .int .u64 (0 : Int), .int .u64 (0 : Int), .int .u64 (0 : Int)]]) hx (by kernel_rfl) A1
     replace A : HH g h7 [.obj bp0 (.cells none 2 [.str x6.s_, .int .i64 x6.at_, .bool x6.extended_, rowV r1 x7.length, .int .i64 x6.t_.Root, .int .i64 x6.groups_, .int .i64 x6.depth_, .int .i64 x6.wrong_, .bool x6.full_]), .lst r1 45 (lst e_S_tree_Node x7)] F := A.glue0 (n := 2) A1
     refine at_step (v := .int .i64 x5) (h1 := h7) [(84, .int .i64 x5)] H (fun fr => by kernel_rfl) (fun fr => Steps.call (by kernel_rfl) hr) ?_
     intro fr t H
     refine at_seg [(3, [])] [(2, .int .i64 x5)] H (noU_all rfl) (fun fr => by kernel_rfl) ?_
     intro fr H
     refine at_nil ?_
     show AW cfg 32 g (right (right (left (right (right (right (right (right (left (left (right (right (bodyC cfg.P 32))))))))))))) fr h7 _
     refine aw_ret (by kernel_rfl) ?_
     have e0 := Option.some.inj hm
     obtain ⟨y0, z0⟩ := Prod.mk.inj e0
     obtain ⟨y1, z1⟩ := Prod.mk.inj z0
     subst y0
     subst y1
     subst z1
     refine ⟨.inl rfl, .int .i64 x5, resH H (fun fr => by kernel_rfl), ?_⟩
     exact ⟨r1, rfl, A⟩
    ·replace H := H.know 62 hb (by kernel_rfl)
     refine aw_false (x := .tmp 62) (by kernel_rfl) H (fun fr => by kernel_rfl) ?_
     refine aw_seq (by kernel_rfl) ?_
     refine aw_reg (id := 15) (n := 9) [(0, []), (1, []), (2, []), (3, []), (4, []), (5, []), (6, []), (7, []), (8, [])] (by kernel_rfl) (by kernel_rfl) ?_
     refine at_seg [(0, []), (1, []), (2, [])] [(0, .ptr (some (bp0, 0))), (3, .int .u8 x1), (88, .bool (x1 == (94 : Int)))] H (noU_all rfl) (fun fr => by kernel_rfl) ?_
     intro fr H
     refine at_cut [(3, []), (4, []), (5, []), (6, []), (7, [])] (fun fr' h' => h3 = h' ∧ Has fr' 138 [(0, .ptr (some (bp0, 0))), (3, .int .u8 x1), (93, .bool ((x1 == (94 : Int)) && p0.extended_))]) ?_ ?_
     ·cases hb : (x1 == (94 : Int) : Bool) with
      | true =>
       replace H := H.know 88 hb (by kernel_rfl)
       refine at_seg [(3, []), (4, []), (5, [])] [(0, .ptr (some (bp0, 0))), (3, .int .u8 x1), (88, .bool true), (91, .ptr (some (bp0, 2)))] H (noU_all rfl) (fun fr => by kernel_rfl) ?_
       intro fr H
       refine at_step (v := .bool p0.extended_) (h1 := h3) [(0, .ptr (some (bp0, 0))), (3, .int .u8 x1), (88, .bool true), (92, .bool p0.extended_)] H (fun fr => by kernel_rfl) (fun fr => .of (s_ld (by kernel_rfl) (A.ld1 0 rfl (o := 2) rfl))) ?_
       intro fr t H
       refine at_seg [(7, [])] [(0, .ptr (some (bp0, 0))), (3, .int .u8 x1), (93, .bool p0.extended_)] H (noU_all rfl) (fun fr => by kernel_rfl) ?_
       intro fr H
       exact at_nil ⟨rfl, by first | exact H.less _ (fun fr => by rfl) | exact H.less _ (fun fr => by rw [hb]; rfl)⟩
      | false =>
       replace H := H.know 88 hb (by kernel_rfl)
       refine at_seg [(3, []), (4, []), (5, []), (6, []), (7, [])] [(0, .ptr (some (bp0, 0))), (3, .int .u8 x1), (93, .bool false)] H (noU_all rfl) (fun fr => by kernel_rfl) ?_
       intro fr H
       exact at_nil ⟨rfl, by first | exact H.less _ (fun fr => by rfl) | exact H.less _ (fun fr => by rw [hb]; rfl)⟩
     ·intro t fr h' hK
      obtain ⟨e, H⟩ := hK
      subst e
      refine at_seg [(8, [])] [(0, .ptr (some (bp0, 0))), (3, .int .u8 x1), (85, .bool ((x1 == (94 : Int)) && p0.extended_))] H (noU_all rfl) (fun fr => by kernel_rfl) ?_
      intro fr H
      refine at_nil ?_
      show AW cfg 32 g (right (right (right (right (right (right (right (left (left (right (right (bodyC cfg.P 32)))))))))))) fr h3 _
      rcases iteB_some hm with ⟨hb, hm⟩ | ⟨hb, hm⟩
      ·replace H := H.know 85 hb (by kernel_rfl)
       refine aw_true (x := .tmp 85) (by kernel_rfl) H (fun fr => by kernel_rfl) ?_
       refine aw_seq (by kernel_rfl) ?_
       refine aw_reg (id := 16) (n := 8) [(0, []), (1, []), (2, []), (3, []), (4, []), (5, []), (6, []), (7, [])] (by kernel_rfl) (by kernel_rfl) ?_
       refine at_seg [(0, []), (1, []), (2, [])] [(0, .ptr (some (bp0, 0))), (94, .ptr (some (bp0, 0))), (96, .ptr (some (bp0, 1)))] H (noU_all rfl) (fun fr => by kernel_rfl) ?_
       intro fr H
       refine at_step (v := .int .i64 p0.at_) (h1 := h3) [(0, .ptr (some (bp0, 0))), (94, .ptr (some (bp0, 0))), (97, .int .i64 p0.at_)] H (fun fr => by kernel_rfl) (fun fr => .of (s_ld (by kernel_rfl) (A.ld1 0 rfl (o := 1) rfl))) ?_
       intro fr t H
       refine at_seg [(4, []), (5, []), (6, [])] [(0, .ptr (some (bp0, 0))), (98, .int .i64 (IntKind.i64.wrap (p0.at_ + (1 : Int)))), (100, .ptr (some (bp0, 1)))] H (noU_all rfl) (fun fr => by kernel_rfl) ?_
       intro fr H
       obtain ⟨h8, hx, A1⟩ := A.st 0 rfl (o := 1) (new := [.int .i64 (IntKind.i64.wrap (p0.at_ + (1 : Int)))]) (ds := [.str p0.s_, .int .i64 (IntKind.i64.wrap (p0.at_ + (1 : Int))), .bool p0.extended_, rowV rp0_3 p0.t_.Nodes.length, .int .i64 p0.t_.Root, .int .i64 p0.groups_, .int .i64 p0.depth_, .int .i64 p0.wrong_, .bool p0.full_]) (Nat.le_of_ble_eq_true rfl) rfl rfl
       replace A : HH g h8 [.obj bp0 (.cells none 2 [.str p0.s_, .int .i64 (IntKind.i64.wrap (p0.at_ + (1 : Int))), .bool p0.extended_, rowV rp0_3 p0.t_.Nodes.length, .int .i64 p0.t_.Root, .int .i64 p0.groups_, .int .i64 p0.depth_, .int .i64 p0.wrong_, .bool p0.full_]), .lst rp0_3 45 (lst e_S_tree_Node p0.t_.Nodes)] F := A1
       refine at_step (v := .tuple []) (h1 := h8) [(0, .ptr (some (bp0, 0)))] H (fun fr => by kernel_rfl) (fun fr => .of (s_st (by kernel_rfl) rfl hx)) ?_
       intro fr t H
       refine at_nil ?_
       show AW cfg 32 g (right (left (right (right (right (right (right (right (right (left (left (right (right (bodyC cfg.P 32)))))))))))))) fr h8 _
       refine aw_seq (by kernel_rfl) ?_
       refine aw_reg (id := 17) (n := 4) [(0, []), (1, []), (2, []), (3, [])] (by kernel_rfl) (by kernel_rfl) ?_
       refine at_seg [(0, []), (1, [])] [(101, .ptr (some (bp0, 0))), (102, .agg [.int .i64 (6 : Int), .int .i64 (0 : Int), .int .i64 (0 : Int), .int .i64 (0 : Int), .int .i64 (0 : Int), .int .i64 (0 : Int), .int .u64 (0 : Int), .int .u64 (0 : Int), .int .u64 (0 : Int), .int .u64 (0 : Int)])] H (noU_all rfl) (fun fr => by kernel_rfl) ?_
       intro fr H
       have A1 := A.cut 2
       obtain ⟨⟨x8, x9, x10⟩, hx, hm⟩ := bind_some hm
       obtain ⟨v1, h9, hr, r2, rfl, A1⟩ := ok_rex_walk_add_sPOR (av := [.ptr (some (bp0, 0)), .agg [.int .i64 (6 : Int), .int .i64 (0 : Int), .int .i64 (0 : Int), .int .i64 (0 : Int), .int .i64 (0 : Int), .int .i64 (0 : Int), .int .u64 (0 : Int), .int .u64 (0 : Int), .int .u64 (0 : Int), .int .u64 (0 : Int)]]) hx (by kernel_rfl) A1
       replace A : HH g h9 [.obj bp0 (.cells none 2 [.str x9.s_, .int .i64 x9.at_, .bool x9.extended_, rowV r2 x10.length, .int .i64 x9.t_.Root, .int .i64 x9.groups_, .int .i64 x9.depth_, .int .i64 x9.wrong_, .bool x9.full_]), .lst r2 45 (lst e_S_tree_Node x10)] F := A.glue0 (n := 2) A1
       refine at_step (v := .int .i64 x8) (h1 := h9) [(103, .int .i64 x8)] H (fun fr => by kernel_rfl) (fun fr => Steps.call (by kernel_rfl) hr) ?_
       intro fr t H
       refine at_seg [(3, [])] [(2, .int .i64 x8)] H (noU_all rfl) (fun fr => by kernel_rfl) ?_
       intro fr H
       refine at_nil ?_
       show AW cfg 32 g (right (right (left (right (right (right (right (right (right (right (left (left (right (right (bodyC cfg.P 32))))))))))))))) fr h9 _
       refine aw_ret (by kernel_rfl) ?_
       have e0 := Option.some.inj hm
       obtain ⟨y0, z0⟩ := Prod.mk.inj e0
       obtain ⟨y1, z1⟩ := Prod.mk.inj z0
       subst y0
       subst y1
       subst z1
       refine ⟨.inl rfl, .int .i64 x8, resH H (fun fr => by kernel_rfl), ?_⟩
       exact ⟨r2, rfl, A⟩
      ·replace H := H.know 85 hb (by kernel_rfl)
       refine aw_false (x := .tmp 85) (by kernel_rfl) H (fun fr => by kernel_rfl) ?_
       refine aw_seq (by kernel_rfl) ?_
       refine aw_reg (id := 18) (n := 3) [(0, []), (1, []), (2, [])] (by kernel_rfl) (by kernel_rfl) ?_
       refine at_seg [(0, [])] [(0, .ptr (some (bp0, 0))), (3, .int .u8 x1), (105, .ptr (some (bp0, 0)))] H (noU_all rfl) (fun fr => by kernel_rfl) ?_
       intro fr H
       have A1 := A.cut 2
       obtain ⟨⟨x11, x12⟩, hx, hm⟩ := bind_some hm
       obtain ⟨v1, h10, hr, rfl, A1⟩ := ok_rex_walk_next_sPOS (av := [.ptr (some (bp0, 0)), .str ([40] : List UInt8)]) hx (by kernel_rfl) A1
       replace A : HH g h10 [.obj bp0 (.cells none 2 [.str x12.s_, .int .i64 x12.at_, .bool x12.extended_, rowV rp0_3 p0.t_.Nodes.length, .int .i64 x12.t_.Root, .int .i64 x12.groups_, .int .i64 x12.depth_, .int .i64 x12.wrong_, .bool x12.full_]), .lst rp0_3 45 (lst e_S_tree_Node p0.t_.Nodes)] F := A.glue0 (n := 2) A1
       refine at_step (v := .bool x11) (h1 := h10) [(0, .ptr (some (bp0, 0))), (3, .int .u8 x1), (106, .bool x11)] H (fun fr => by kernel_rfl) (fun fr => Steps.call (by kernel_rfl) hr) ?_
       intro fr t H
       refine at_seg [(2, [])] [(0, .ptr (some (bp0, 0))), (3, .int .u8 x1), (104, .bool x11)] H (noU_all rfl) (fun fr => by kernel_rfl) ?_
       intro fr H
       refine at_nil ?_
       show AW cfg 32 g (right (right (right (right (right (right (right (right (right (left (left (right (right (bodyC cfg.P 32)))))))))))))) fr h10 _
       rcases iteB_some hm with ⟨hb, hm⟩ | ⟨hb, hm⟩
       ·replace H := H.know 104 hb (by kernel_rfl)
        refine aw_true (x := .tmp 104) (by kernel_rfl) H (fun fr => by kernel_rfl) ?_
        refine aw_seq (by kernel_rfl) ?_
        refine aw_reg (id := 19) (n := 3) [(0, []), (1, []), (2, [])] (by kernel_rfl) (by kernel_rfl) ?_
        refine at_seg [(0, [])] [(107, .ptr (some (bp0, 0)))] H (noU_all rfl) (fun fr => by kernel_rfl) ?_
        intro fr H
        have A1 := A.cut 2
        obtain ⟨⟨x13, x14, x15⟩, hx, hm⟩ := bind_some hm
        obtain ⟨v1, h11, hr, r3, rfl, A1⟩ := hS.ok_rex_walk_group_sPO (av := [.ptr (some (bp0, 0))]) hx (by kernel_rfl) A1
        replace A : HH g h11 [.obj bp0 (.cells none 2 [.str x14.s_, .int .i64 x14.at_, .bool x14.extended_, rowV r3 x15.length, .int .i64 x14.t_.Root, .int .i64 x14.groups_, .int .i64 x14.depth_, .int .i64 x14.wrong_, .bool x14.full_]), .lst r3 45 (lst e_S_tree_Node x15)] F := A.glue0 (n := 2) A1
        refine at_step (v := .int .i64 x13) (h1 := h11) [(108, .int .i64 x13)] H (fun fr => by kernel_rfl) (fun fr => Steps.call (by kernel_rfl) hr) ?_
        intro fr t H
        refine at_seg [(2, [])] [(2, .int .i64 x13)] H (noU_all rfl) (fun fr => by kernel_rfl) ?_
        intro fr H
        refine at_nil ?_
        show AW cfg 32 g (right (left (right (right (right (right (right (right (right (right (right (left (left (right (right (bodyC cfg.P 32)))))))))))))))) fr h11 _
        refine aw_ret (by kernel_rfl) ?_
        have e0 := Option.some.inj hm
        obtain ⟨y0, z0⟩ := Prod.mk.inj e0
        obtain ⟨y1, z1⟩ := Prod.mk.inj z0
        subst y0
        subst y1
        subst z1
        refine ⟨.inl rfl, .int .i64 x13, resH H (fun fr => by kernel_rfl), ?_⟩
        exact ⟨r3, rfl, A⟩
       ·replace H := H.know 104 hb (by kernel_rfl)
        refine aw_false (x := .tmp 104) (by kernel_rfl) H (fun fr => by kernel_rfl) ?_
        refine aw_seq (by kernel_rfl) ?_
        refine aw_reg (id := 20) (n := 3) [(0, []), (1, []), (2, [])] (by kernel_rfl) (by kernel_rfl) ?_
        refine at_seg [(0, []), (1, []), (2, [])] [(0, .ptr (some (bp0, 0))), (3, .int .u8 x1), (109, .bool (x1 == (92 : Int)))] H (noU_all rfl) (fun fr => by kernel_rfl) ?_
        intro fr H
        refine at_nil ?_
        show AW cfg 32 g (right (right (right (right (right (right (right (right (right (right (right (left (left (right (right (bodyC cfg.P 32)))))))))))))))) fr h10 _
        rcases iteB_some hm with ⟨hb, hm⟩ | ⟨hb, hm⟩
        ·replace H := H.know 109 hb (by kernel_rfl)
         refine aw_true (x := .tmp 109) (by kernel_rfl) H (fun fr => by kernel_rfl) ?_
         refine aw_seq (by kernel_rfl) ?_
         refine aw_reg (id := 21) (n := 3) [(0, []), (1, []), (2, [])] (by kernel_rfl) (by kernel_rfl) ?_
         refine at_seg [(0, [])] [(112, .ptr (some (bp0, 0)))] H (noU_all rfl) (fun fr => by kernel_rfl) ?_
         intro fr H
         cases hm
        ·replace H := H.know 109 hb (by kernel_rfl)
         refine aw_false (x := .tmp 109) (by kernel_rfl) H (fun fr => by kernel_rfl) ?_
         refine aw_skip (by kernel_rfl) ?_
         show AW cfg 32 g (right (right (right (bodyC cfg.P 32)))) fr h10 _
         refine aw_seq (by kernel_rfl) ?_
         obtain ⟨o1, ho, hm⟩ := bind_some hm
         refine aw_mono (Q' := fun e fr' h' => (e = .normal ∧ .inl () = o1 ∧ Has fr' 138 [(0, .ptr (some (bp0, 0))), (3, .int .u8 x1)] ∧ HH g h' [.obj bp0 (.cells none 2 [.str x12.s_, .int .i64 x12.at_, .bool x12.extended_, rowV rp0_3 p0.t_.Nodes.length, .int .i64 x12.t_.Root, .int .i64 x12.groups_, .int .i64 x12.depth_, .int .i64 x12.wrong_, .bool x12.full_]), .lst rp0_3 45 (lst e_S_tree_Node p0.t_.Nodes)] F) ∨ (∃ (x16 : Int), e = .ret ∧ .inr x16 = o1 ∧ Has fr' 138 [(2, .int .i64 x16)] ∧ HH g h' [.obj bp0 (.cells none 2 [.str x12.s_, .int .i64 x12.at_, .bool x12.extended_, rowV rp0_3 p0.t_.Nodes.length, .int .i64 x12.t_.Root, .int .i64 x12.groups_, .int .i64 x12.depth_, .int .i64 x12.wrong_, .bool x12.full_]), .lst rp0_3 45 (lst e_S_tree_Node p0.t_.Nodes)] F) ∨ False) ?_ ?_
         ·replace hm := ho
          clear ho
          refine aw_seq (by kernel_rfl) ?_
          refine aw_reg (id := 22) (n := 4) [(0, []), (1, []), (2, []), (3, [])] (by kernel_rfl) (by kernel_rfl) ?_
          refine at_seg [(0, []), (1, []), (2, [])] [(0, .ptr (some (bp0, 0))), (3, .int .u8 x1), (116, .ptr (some (bp0, 2)))] H (noU_all rfl) (fun fr => by kernel_rfl) ?_
          intro fr H
          refine at_step (v := .bool x12.extended_) (h1 := h10) [(0, .ptr (some (bp0, 0))), (3, .int .u8 x1), (117, .bool x12.extended_)] H (fun fr => by kernel_rfl) (fun fr => .of (s_ld (by kernel_rfl) (A.ld1 0 rfl (o := 2) rfl))) ?_
          intro fr t H
          refine at_nil ?_
          show AW cfg 32 g (right (left (right (right (right (bodyC cfg.P 32)))))) fr h10 _
          rcases iteB_some hm with ⟨hb, hm⟩ | ⟨hb, hm⟩
          ·replace H := H.know 117 hb (by kernel_rfl)
           refine aw_true (x := .tmp 117) (by kernel_rfl) H (fun fr => by kernel_rfl) ?_
           refine aw_seq (by kernel_rfl) ?_
           refine aw_reg (id := 23) (n := 1) [(0, [])] (by kernel_rfl) (by kernel_rfl) ?_
           refine at_seg [(0, [])] [(0, .ptr (some (bp0, 0))), (3, .int .u8 x1), (118, .int .u8 x1)] H (noU_all rfl) (fun fr => by kernel_rfl) ?_
           intro fr H
           refine at_nil ?_
           show AW cfg 32 g (right (left (right (left (right (right (right (bodyC cfg.P 32)))))))) fr h10 _
           refine aw_block (id := 1) (by kernel_rfl) ?_
           refine aw_seq (by kernel_rfl) ?_
           obtain ⟨o2, ho, hm⟩ := bind_some hm
           refine aw_mono (Q' := fun e fr' h' => (e = .normal ∧ .inl () = o2 ∧ Has fr' 138 [] ∧ HH g h' [.obj bp0 (.cells none 2 [.str x12.s_, .int .i64 x12.at_, .bool x12.extended_, rowV rp0_3 p0.t_.Nodes.length, .int .i64 x12.t_.Root, .int .i64 x12.groups_, .int .i64 x12.depth_, .int .i64 x12.wrong_, .bool x12.full_]), .lst rp0_3 45 (lst e_S_tree_Node p0.t_.Nodes)] F) ∨ (e = .exit 1 ∧ .inr () = o2 ∧ Has fr' 138 [(0, .ptr (some (bp0, 0))), (3, .int .u8 x1)] ∧ HH g h' [.obj bp0 (.cells none 2 [.str x12.s_, .int .i64 x12.at_, .bool x12.extended_, rowV rp0_3 p0.t_.Nodes.length, .int .i64 x12.t_.Root, .int .i64 x12.groups_, .int .i64 x12.depth_, .int .i64 x12.wrong_, .bool x12.full_]), .lst rp0_3 45 (lst e_S_tree_Node p0.t_.Nodes)] F) ∨ False) ?_ ?_
           ·replace hm := ho
            clear ho
            refine aw_block (id := 4) (by kernel_rfl) ?_
            refine aw_block (id := 3) (by kernel_rfl) ?_
            refine aw_block (id := 2) (by kernel_rfl) ?_
            refine aw_seq (by kernel_rfl) ?_
            refine aw_seq (by kernel_rfl) ?_
            refine aw_seq (by kernel_rfl) ?_
            obtain ⟨o3, ho, hm⟩ := bind_some hm
            refine aw_mono (Q' := fun e fr' h' => (∃ (x17 : Bool), e = .normal ∧ x17 = o3 ∧ Has fr' 138 [(0, .ptr (some (bp0, 0))), (3, .int .u8 x1), (118, .int .u8 x1), (119, .bool x17)] ∧ HH g h' [.obj bp0 (.cells none 2 [.str x12.s_, .int .i64 x12.at_, .bool x12.extended_, rowV rp0_3 p0.t_.Nodes.length, .int .i64 x12.t_.Root, .int .i64 x12.groups_, .int .i64 x12.depth_, .int .i64 x12.wrong_, .bool x12.full_]), .lst rp0_3 45 (lst e_S_tree_Node p0.t_.Nodes)] F) ∨ False) ?_ ?_
            ·replace hm := ho
             clear ho
             refine aw_seq (by kernel_rfl) ?_
             refine aw_reg (id := 24) (n := 2) [(0, []), (1, [])] (by kernel_rfl) (by kernel_rfl) ?_
             refine at_seg [(0, []), (1, [])] [(0, .ptr (some (bp0, 0))), (3, .int .u8 x1), (118, .int .u8 x1), (119, .bool (x1 == (42 : Int)))] H (noU_all rfl) (fun fr => by kernel_rfl) ?_
             intro fr H
             refine at_nil ?_
             show AW cfg 32 g (right (left (left (left (left (left (left (left (left (right (left (right (left (right (right (right (bodyC cfg.P 32))))))))))))))))) fr h10 _
             rcases iteB_some hm with ⟨hb, hm⟩ | ⟨hb, hm⟩
             ·replace H := H.know 119 hb (by kernel_rfl)
              refine aw_true (x := .tmp 119) (by kernel_rfl) H (fun fr => by kernel_rfl) ?_
              refine aw_skip (by kernel_rfl) ?_
              exact Or.inl ⟨true, rfl, Option.some.inj hm, H.less _ (fun fr => by kernel_rfl), A⟩
             ·replace H := H.know 119 hb (by kernel_rfl)
              refine aw_false (x := .tmp 119) (by kernel_rfl) H (fun fr => by kernel_rfl) ?_
              refine aw_reg (id := 25) (n := 2) [(0, []), (1, [])] (by kernel_rfl) (by kernel_rfl) ?_
              refine at_seg [(0, []), (1, [])] [(0, .ptr (some (bp0, 0))), (3, .int .u8 x1), (118, .int .u8 x1), (119, .bool (x1 == (43 : Int)))] H (noU_all rfl) (fun fr => by kernel_rfl) ?_
              intro fr H
              refine at_nil ?_
              exact Or.inl ⟨x1 == (43 : Int), rfl, Option.some.inj hm, H.less _ (fun fr => by kernel_rfl), A⟩
            ·clear ho
             clear A
             intro e fr h12 hQ
             rcases hQ with ⟨x17, rfl, rfl, H, A⟩ | hF
             ·skip
              show AW cfg 32 g (right (left (left (left (left (left (left (left (right (left (right (left (right (right (right (bodyC cfg.P 32)))))))))))))))) fr h12 _
              rcases iteB_some hm with ⟨hb, hm⟩ | ⟨hb, hm⟩
              ·replace H := H.know 119 hb (by kernel_rfl)
               refine aw_true (x := .tmp 119) (by kernel_rfl) H (fun fr => by kernel_rfl) ?_
               refine aw_exit (i := 2) (by kernel_rfl) ?_
               exact Or.inl ⟨rfl, Option.some.inj hm, H.less _ (fun fr => by kernel_rfl), A⟩
              ·replace H := H.know 119 hb (by kernel_rfl)
               refine aw_false (x := .tmp 119) (by kernel_rfl) H (fun fr => by kernel_rfl) ?_
               refine aw_skip (by kernel_rfl) ?_
               show AW cfg 32 g (right (left (left (left (left (left (left (right (left (right (left (right (right (right (bodyC cfg.P 32))))))))))))))) fr h12 _
               refine aw_seq (by kernel_rfl) ?_
               refine aw_seq (by kernel_rfl) ?_
               obtain ⟨o4, ho, hm⟩ := bind_some hm
               refine aw_mono (Q' := fun e fr' h' => (∃ (x18 : Bool), e = .normal ∧ x18 = o4 ∧ Has fr' 138 [(0, .ptr (some (bp0, 0))), (3, .int .u8 x1), (118, .int .u8 x1), (122, .bool x18)] ∧ HH g h' [.obj bp0 (.cells none 2 [.str x12.s_, .int .i64 x12.at_, .bool x12.extended_, rowV rp0_3 p0.t_.Nodes.length, .int .i64 x12.t_.Root, .int .i64 x12.groups_, .int .i64 x12.depth_, .int .i64 x12.wrong_, .bool x12.full_]), .lst rp0_3 45 (lst e_S_tree_Node p0.t_.Nodes)] F) ∨ False) ?_ ?_
               ·replace hm := ho
                clear ho
                refine aw_seq (by kernel_rfl) ?_
                refine aw_reg (id := 26) (n := 2) [(0, []), (1, [])] (by kernel_rfl) (by kernel_rfl) ?_
                refine at_seg [(0, []), (1, [])] [(0, .ptr (some (bp0, 0))), (3, .int .u8 x1), (118, .int .u8 x1), (122, .bool (x1 == (63 : Int)))] H (noU_all rfl) (fun fr => by kernel_rfl) ?_
                intro fr H
                refine at_nil ?_
                show AW cfg 32 g (right (left (left (right (left (left (left (left (left (left (right (left (right (left (right (right (right (bodyC cfg.P 32)))))))))))))))))) fr h12 _
                rcases iteB_some hm with ⟨hb, hm⟩ | ⟨hb, hm⟩
                ·replace H := H.know 122 hb (by kernel_rfl)
                 refine aw_true (x := .tmp 122) (by kernel_rfl) H (fun fr => by kernel_rfl) ?_
                 refine aw_skip (by kernel_rfl) ?_
                 exact Or.inl ⟨true, rfl, Option.some.inj hm, H.less _ (fun fr => by kernel_rfl), A⟩
                ·replace H := H.know 122 hb (by kernel_rfl)
                 refine aw_false (x := .tmp 122) (by kernel_rfl) H (fun fr => by kernel_rfl) ?_
                 refine aw_reg (id := 27) (n := 2) [(0, []), (1, [])] (by kernel_rfl) (by kernel_rfl) ?_
                 refine at_seg [(0, []), (1, [])] [(0, .ptr (some (bp0, 0))), (3, .int .u8 x1), (118, .int .u8 x1), (122, .bool (x1 == (123 : Int)))] H (noU_all rfl) (fun fr => by kernel_rfl) ?_
                 intro fr H
                 refine at_nil ?_
                 exact Or.inl ⟨x1 == (123 : Int), rfl, Option.some.inj hm, H.less _ (fun fr => by kernel_rfl), A⟩
               ·clear ho
                clear A
                intro e fr h13 hQ
                rcases hQ with ⟨x18, rfl, rfl, H, A⟩ | hF
                ·skip
                 show AW cfg 32 g (right (left (right (left (left (left (left (left (left (right (left (right (left (right (right (right (bodyC cfg.P 32))))))))))))))))) fr h13 _
                 rcases iteB_some hm with ⟨hb, hm⟩ | ⟨hb, hm⟩
                 ·replace H := H.know 122 hb (by kernel_rfl)
                  refine aw_true (x := .tmp 122) (by kernel_rfl) H (fun fr => by kernel_rfl) ?_
                  refine aw_exit (i := 3) (by kernel_rfl) ?_
                  exact Or.inl ⟨rfl, Option.some.inj hm, H.less _ (fun fr => by kernel_rfl), A⟩
                 ·replace H := H.know 122 hb (by kernel_rfl)
                  refine aw_false (x := .tmp 122) (by kernel_rfl) H (fun fr => by kernel_rfl) ?_
                  refine aw_skip (by kernel_rfl) ?_
                  show AW cfg 32 g (right (right (left (left (left (left (left (left (right (left (right (left (right (right (right (bodyC cfg.P 32)))))))))))))))) fr h13 _
                  refine aw_seq (by kernel_rfl) ?_
                  obtain ⟨o5, ho, hm⟩ := bind_some hm
                  refine aw_mono (Q' := fun e fr' h' => (∃ (x19 : Bool), e = .normal ∧ x19 = o5 ∧ Has fr' 138 [(0, .ptr (some (bp0, 0))), (3, .int .u8 x1), (125, .bool x19)] ∧ HH g h' [.obj bp0 (.cells none 2 [.str x12.s_, .int .i64 x12.at_, .bool x12.extended_, rowV rp0_3 p0.t_.Nodes.length, .int .i64 x12.t_.Root, .int .i64 x12.groups_, .int .i64 x12.depth_, .int .i64 x12.wrong_, .bool x12.full_]), .lst rp0_3 45 (lst e_S_tree_Node p0.t_.Nodes)] F) ∨ False) ?_ ?_
                  ·replace hm := ho
                   clear ho
                   refine aw_seq (by kernel_rfl) ?_
                   refine aw_reg (id := 28) (n := 2) [(0, []), (1, [])] (by kernel_rfl) (by kernel_rfl) ?_
                   refine at_seg [(0, []), (1, [])] [(0, .ptr (some (bp0, 0))), (3, .int .u8 x1), (118, .int .u8 x1), (125, .bool (x1 == (124 : Int)))] H (noU_all rfl) (fun fr => by kernel_rfl) ?_
                   intro fr H
                   refine at_nil ?_
                   show AW cfg 32 g (right (left (right (right (left (left (left (left (left (left (right (left (right (left (right (right (right (bodyC cfg.P 32)))))))))))))))))) fr h13 _
                   rcases iteB_some hm with ⟨hb, hm⟩ | ⟨hb, hm⟩
                   ·replace H := H.know 125 hb (by kernel_rfl)
                    refine aw_true (x := .tmp 125) (by kernel_rfl) H (fun fr => by kernel_rfl) ?_
                    refine aw_skip (by kernel_rfl) ?_
                    exact Or.inl ⟨true, rfl, Option.some.inj hm, H.less _ (fun fr => by kernel_rfl), A⟩
                   ·replace H := H.know 125 hb (by kernel_rfl)
                    refine aw_false (x := .tmp 125) (by kernel_rfl) H (fun fr => by kernel_rfl) ?_
                    refine aw_reg (id := 29) (n := 2) [(0, []), (1, [])] (by kernel_rfl) (by kernel_rfl) ?_
                    refine at_seg [(0, []), (1, [])] [(0, .ptr (some (bp0, 0))), (3, .int .u8 x1), (125, .bool (x1 == (41 : Int)))] H (noU_all rfl) (fun fr => by kernel_rfl) ?_
                    intro fr H
                    refine at_nil ?_
                    exact Or.inl ⟨x1 == (41 : Int), rfl, Option.some.inj hm, H.less _ (fun fr => by kernel_rfl), A⟩
                  ·clear ho
                   clear A
                   intro e fr h14 hQ
                   rcases hQ with ⟨x19, rfl, rfl, H, A⟩ | hF
                   ·skip
                    show AW cfg 32 g (right (right (right (left (left (left (left (left (left (right (left (right (left (right (right (right (bodyC cfg.P 32))))))))))))))))) fr h14 _
                    rcases iteB_some hm with ⟨hb, hm⟩ | ⟨hb, hm⟩
                    ·replace H := H.know 125 hb (by kernel_rfl)
                     refine aw_true (x := .tmp 125) (by kernel_rfl) H (fun fr => by kernel_rfl) ?_
                     refine aw_exit (i := 4) (by kernel_rfl) ?_
                     exact Or.inl ⟨rfl, Option.some.inj hm, H.less _ (fun fr => by kernel_rfl), A⟩
                    ·replace H := H.know 125 hb (by kernel_rfl)
                     refine aw_false (x := .tmp 125) (by kernel_rfl) H (fun fr => by kernel_rfl) ?_
                     refine aw_skip (by kernel_rfl) ?_
                     show AW cfg 32 g (right (left (left (left (left (left (right (left (right (left (right (right (right (bodyC cfg.P 32)))))))))))))) fr h14 _
                     refine aw_exit (i := 1) (by kernel_rfl) ?_
                     exact Or.inr (Or.inl ⟨rfl, Option.some.inj hm, H.less _ (fun fr => by kernel_rfl), A⟩)
                   ·exact hF.elim
                ·exact hF.elim
             ·exact hF.elim
           ·clear ho
            clear A
            intro e fr h15 hQ
            rcases hQ with ⟨rfl, rfl, H, A⟩ | ⟨rfl, rfl, H, A⟩ | hF
            ·skip
             show AW cfg 32 g (right (left (right (left (right (left (right (right (right (bodyC cfg.P 32)))))))))) fr h15 _
             refine aw_seq (by kernel_rfl) ?_
             refine aw_seq (by kernel_rfl) ?_
             refine aw_reg (id := 30) (n := 1) [(0, [])] (by kernel_rfl) (by kernel_rfl) ?_
             refine at_seg [(0, [])] [(2, .int .i64 (0 : Int))] H (noU_all rfl) (fun fr => by kernel_rfl) ?_
             intro fr H
             refine at_nil ?_
             show AW cfg 32 g (right (left (right (left (right (left (right (left (right (right (right (bodyC cfg.P 32)))))))))))) fr h15 _
             refine aw_ret (by kernel_rfl) ?_
             exact Or.inr (Or.inl ⟨(0 : Int), rfl, Option.some.inj hm, H.less _ (fun fr => by kernel_rfl), A⟩)
            ·skip
             exact Or.inl ⟨rfl, Option.some.inj hm, H.less _ (fun fr => by kernel_rfl), A⟩
            ·exact hF.elim
          ·replace H := H.know 117 hb (by kernel_rfl)
           refine aw_false (x := .tmp 117) (by kernel_rfl) H (fun fr => by kernel_rfl) ?_
           refine aw_skip (by kernel_rfl) ?_
           exact Or.inl ⟨rfl, Option.some.inj hm, H.less _ (fun fr => by kernel_rfl), A⟩
         ·clear ho
          clear A
          intro e fr h16 hQ
          rcases hQ with ⟨rfl, rfl, H, A⟩ | ⟨x16, rfl, rfl, H, A⟩ | hF
          ·skip
           show AW cfg 32 g (right (right (right (right (bodyC cfg.P 32))))) fr h16 _
           refine aw_seq (by kernel_rfl) ?_
           refine aw_reg (id := 31) (n := 8) [(0, []), (1, []), (2, []), (3, []), (4, []), (5, []), (6, []), (7, [])] (by kernel_rfl) (by kernel_rfl) ?_
           refine at_seg [(0, []), (1, []), (2, [])] [(0, .ptr (some (bp0, 0))), (3, .int .u8 x1), (128, .ptr (some (bp0, 0))), (130, .ptr (some (bp0, 1)))] H (noU_all rfl) (fun fr => by kernel_rfl) ?_
           intro fr H
           refine at_step (v := .int .i64 x12.at_) (h1 := h16) [(0, .ptr (some (bp0, 0))), (3, .int .u8 x1), (128, .ptr (some (bp0, 0))), (131, .int .i64 x12.at_)] H (fun fr => by kernel_rfl) (fun fr => .of (s_ld (by kernel_rfl) (A.ld1 0 rfl (o := 1) rfl))) ?_
           intro fr t H
           refine at_seg [(4, []), (5, []), (6, [])] [(0, .ptr (some (bp0, 0))), (3, .int .u8 x1), (132, .int .i64 (IntKind.i64.wrap (x12.at_ + (1 : Int)))), (134, .ptr (some (bp0, 1)))] H (noU_all rfl) (fun fr => by kernel_rfl) ?_
           intro fr H
           obtain ⟨h17, hx, A1⟩ := A.st 0 rfl (o := 1) (new := [.int .i64 (IntKind.i64.wrap (x12.at_ + (1 : Int)))]) (ds := [.str x12.s_, .int .i64 (IntKind.i64.wrap (x12.at_ + (1 : Int))), .bool x12.extended_, rowV rp0_3 p0.t_.Nodes.length, .int .i64 x12.t_.Root, .int .i64 x12.groups_, .int .i64 x12.depth_, .int .i64 x12.wrong_, .bool x12.full_]) (Nat.le_of_ble_eq_true rfl) rfl rfl
           replace A : HH g h17 [.obj bp0 (.cells none 2 [.str x12.s_, .int .i64 (IntKind.i64.wrap (x12.at_ + (1 : Int))), .bool x12.extended_, rowV rp0_3 p0.t_.Nodes.length, .int .i64 x12.t_.Root, .int .i64 x12.groups_, .int .i64 x12.depth_, .int .i64 x12.wrong_, .bool x12.full_]), .lst rp0_3 45 (lst e_S_tree_Node p0.t_.Nodes)] F := A1
           refine at_step (v := .tuple []) (h1 := h17) [(0, .ptr (some (bp0, 0))), (3, .int .u8 x1)] H (fun fr => by kernel_rfl) (fun fr => .of (s_st (by kernel_rfl) rfl hx)) ?_
           intro fr t H
           refine at_nil ?_
           show AW cfg 32 g (right (right (right (right (right (bodyC cfg.P 32)))))) fr h17 _
           refine aw_seq (by kernel_rfl) ?_
           refine aw_reg (id := 32) (n := 4) [(0, []), (1, []), (2, []), (3, [])] (by kernel_rfl) (by kernel_rfl) ?_
           refine at_seg [(0, []), (1, [])] [(135, .ptr (some (bp0, 0))), (136, .int .u8 x1)] H (noU_all rfl) (fun fr => by kernel_rfl) ?_
           intro fr H
           have A1 := A.cut 2
           obtain ⟨⟨x20, x21, x22⟩, hx, hm⟩ := bind_some hm
           obtain ⟨v1, h18, hr, r4, rfl, A1⟩ := ok_rex_walk_one_sPOI (av := [.ptr (some (bp0, 0)), .int .u8 x1]) hx (by kernel_rfl) A1
           replace A : HH g h18 [.obj bp0 (.cells none 2 [.str x21.s_, .int .i64 x21.at_, .bool x21.extended_, rowV r4 x22.length, .int .i64 x21.t_.Root, .int .i64 x21.groups_, .int .i64 x21.depth_, .int .i64 x21.wrong_, .bool x21.full_]), .lst r4 45 (lst e_S_tree_Node x22)] F := A.glue0 (n := 2) A1
           refine at_step (v := .int .i64 x20) (h1 := h18) [(137, .int .i64 x20)] H (fun fr => by kernel_rfl) (fun fr => Steps.call (by kernel_rfl) hr) ?_
           intro fr t H
           refine at_seg [(3, [])] [(2, .int .i64 x20)] H (noU_all rfl) (fun fr => by kernel_rfl) ?_
           intro fr H
           refine at_nil ?_
           show AW cfg 32 g (right (right (right (right (right (right (bodyC cfg.P 32))))))) fr h18 _
           refine aw_ret (by kernel_rfl) ?_
           have e0 := Option.some.inj hm
           obtain ⟨y0, z0⟩ := Prod.mk.inj e0
           obtain ⟨y1, z1⟩ := Prod.mk.inj z0
           subst y0
           subst y1
           subst z1
           refine ⟨.inl rfl, .int .i64 x20, resH H (fun fr => by kernel_rfl), ?_⟩
           exact ⟨r4, rfl, A⟩
          ·skip
           have e0 := Option.some.inj hm
           obtain ⟨y0, z0⟩ := Prod.mk.inj e0
           obtain ⟨y1, z1⟩ := Prod.mk.inj z0
           subst y0
           subst y1
           subst z1
           refine ⟨.inl rfl, .int .i64 x16, resH H (fun fr => by kernel_rfl), ?_⟩
           exact ⟨rp0_3, rfl, A⟩
          ·exact hF.elim
noncomputable def rSC_rex_walk_group_sPO : Nat → SC_rex_walk_group_sPO
 | 0 => ⟨fun _ => none, fun _ => none, fun _ => none, fun _ => none⟩
 | n + 1 => ⟨B_rex_walk_group_sPO (rSC_rex_walk_group_sPO n), B_rex_walk_expression_sPO (rSC_rex_walk_group_sPO n), B_rex_walk_branch_sPO (rSC_rex_walk_group_sPO n), B_rex_walk_atom_sPO (rSC_rex_walk_group_sPO n)⟩
theorem okrSC_rex_walk_group_sPO : ∀ n, OkSC_rex_walk_group_sPO (rSC_rex_walk_group_sPO n)
 | 0 => ⟨fun hm => (by cases hm), fun hm => (by cases hm), fun hm => (by cases hm), fun hm => (by cases hm)⟩
 | n + 1 => ⟨fun hm hc A => okB_rex_walk_group_sPO (okrSC_rex_walk_group_sPO n) hm hc A, fun hm hc A => okB_rex_walk_expression_sPO (okrSC_rex_walk_group_sPO n) hm hc A, fun hm hc A => okB_rex_walk_branch_sPO (okrSC_rex_walk_group_sPO n) hm hc A, fun hm hc A => okB_rex_walk_atom_sPO (okrSC_rex_walk_group_sPO n) hm hc A⟩
noncomputable def M_rex_walk_group_sPO : S_rex_walk → Option (Int × S_rex_walk × (List S_tree_Node)) := (rSC_rex_walk_group_sPO bigF).M_rex_walk_group_sPO
theorem ok_rex_walk_group_sPO {g : Gd} {h : AHeap} {F : List Ck} {p0 : S_rex_walk} {bp0 : Nat} {rp0_3 : Option Nat} {q0 : Int} {u0 : S_rex_walk} {u1 : List S_tree_Node} {av : List AVal} (hm : M_rex_walk_group_sPO p0 = some (q0, u0, u1)) (hc : canL (cfg.still 50) av = [.ptr (some (bp0, 0))]) (A : HH g h [.obj bp0 (.cells none 2 [.str p0.s_, .int .i64 p0.at_, .bool p0.extended_, rowV rp0_3 p0.t_.Nodes.length, .int .i64 p0.t_.Root, .int .i64 p0.groups_, .int .i64 p0.depth_, .int .i64 p0.wrong_, .bool p0.full_]), .lst rp0_3 45 (lst e_S_tree_Node p0.t_.Nodes)] F) : ∃ v h', Runs cfg g h 50 av v h' ∧ ∃ (r'1 : Option Nat), v = .int .i64 q0 ∧ HH g h' [.obj bp0 (.cells none 2 [.str u0.s_, .int .i64 u0.at_, .bool u0.extended_, rowV r'1 u1.length, .int .i64 u0.t_.Root, .int .i64 u0.groups_, .int .i64 u0.depth_, .int .i64 u0.wrong_, .bool u0.full_]), .lst r'1 45 (lst e_S_tree_Node u1)] F := (okrSC_rex_walk_group_sPO bigF).ok_rex_walk_group_sPO hm hc A
noncomputable def M_rex_walk_expression_sPO : S_rex_walk → Option (Int × S_rex_walk × (List S_tree_Node)) := (rSC_rex_walk_group_sPO bigF).M_rex_walk_expression_sPO
theorem ok_rex_walk_expression_sPO {g : Gd} {h : AHeap} {F : List Ck} {p0 : S_rex_walk} {bp0 : Nat} {rp0_3 : Option Nat} {q0 : Int} {u0 : S_rex_walk} {u1 : List S_tree_Node} {av : List AVal} (hm : M_rex_walk_expression_sPO p0 = some (q0, u0, u1)) (hc : canL (cfg.still 12) av = [.ptr (some (bp0, 0))]) (A : HH g h [.obj bp0 (.cells none 2 [.str p0.s_, .int .i64 p0.at_, .bool p0.extended_, rowV rp0_3 p0.t_.Nodes.length, .int .i64 p0.t_.Root, .int .i64 p0.groups_, .int .i64 p0.depth_, .int .i64 p0.wrong_, .bool p0.full_]), .lst rp0_3 45 (lst e_S_tree_Node p0.t_.Nodes)] F) : ∃ v h', Runs cfg g h 12 av v h' ∧ ∃ (r'1 : Option Nat), v = .int .i64 q0 ∧ HH g h' [.obj bp0 (.cells none 2 [.str u0.s_, .int .i64 u0.at_, .bool u0.extended_, rowV r'1 u1.length, .int .i64 u0.t_.Root, .int .i64 u0.groups_, .int .i64 u0.depth_, .int .i64 u0.wrong_, .bool u0.full_]), .lst r'1 45 (lst e_S_tree_Node u1)] F := (okrSC_rex_walk_group_sPO bigF).ok_rex_walk_expression_sPO hm hc A
noncomputable def M_rex_walk_branch_sPO : S_rex_walk → Option (Int × S_rex_walk × (List S_tree_Node)) := (rSC_rex_walk_group_sPO bigF).M_rex_walk_branch_sPO
theorem ok_rex_walk_branch_sPO {g : Gd} {h : AHeap} {F : List Ck} {p0 : S_rex_walk} {bp0 : Nat} {rp0_3 : Option Nat} {q0 : Int} {u0 : S_rex_walk} {u1 : List S_tree_Node} {av : List AVal} (hm : M_rex_walk_branch_sPO p0 = some (q0, u0, u1)) (hc : canL (cfg.still 20) av = [.ptr (some (bp0, 0))]) (A : HH g h [.obj bp0 (.cells none 2 [.str p0.s_, .int .i64 p0.at_, .bool p0.extended_, rowV rp0_3 p0.t_.Nodes.length, .int .i64 p0.t_.Root, .int .i64 p0.groups_, .int .i64 p0.depth_, .int .i64 p0.wrong_, .bool p0.full_]), .lst rp0_3 45 (lst e_S_tree_Node p0.t_.Nodes)] F) : ∃ v h', Runs cfg g h 20 av v h' ∧ ∃ (r'1 : Option Nat), v = .int .i64 q0 ∧ HH g h' [.obj bp0 (.cells none 2 [.str u0.s_, .int .i64 u0.at_, .bool u0.extended_, rowV r'1 u1.length, .int .i64 u0.t_.Root, .int .i64 u0.groups_, .int .i64 u0.depth_, .int .i64 u0.wrong_, .bool u0.full_]), .lst r'1 45 (lst e_S_tree_Node u1)] F := (okrSC_rex_walk_group_sPO bigF).ok_rex_walk_branch_sPO hm hc A
noncomputable def M_rex_walk_atom_sPO : S_rex_walk → Option (Int × S_rex_walk × (List S_tree_Node)) := (rSC_rex_walk_group_sPO bigF).M_rex_walk_atom_sPO
theorem ok_rex_walk_atom_sPO {g : Gd} {h : AHeap} {F : List Ck} {p0 : S_rex_walk} {bp0 : Nat} {rp0_3 : Option Nat} {q0 : Int} {u0 : S_rex_walk} {u1 : List S_tree_Node} {av : List AVal} (hm : M_rex_walk_atom_sPO p0 = some (q0, u0, u1)) (hc : canL (cfg.still 32) av = [.ptr (some (bp0, 0))]) (A : HH g h [.obj bp0 (.cells none 2 [.str p0.s_, .int .i64 p0.at_, .bool p0.extended_, rowV rp0_3 p0.t_.Nodes.length, .int .i64 p0.t_.Root, .int .i64 p0.groups_, .int .i64 p0.depth_, .int .i64 p0.wrong_, .bool p0.full_]), .lst rp0_3 45 (lst e_S_tree_Node p0.t_.Nodes)] F) : ∃ v h', Runs cfg g h 32 av v h' ∧ ∃ (r'1 : Option Nat), v = .int .i64 q0 ∧ HH g h' [.obj bp0 (.cells none 2 [.str u0.s_, .int .i64 u0.at_, .bool u0.extended_, rowV r'1 u1.length, .int .i64 u0.t_.Root, .int .i64 u0.groups_, .int .i64 u0.depth_, .int .i64 u0.wrong_, .bool u0.full_]), .lst r'1 45 (lst e_S_tree_Node u1)] F := (okrSC_rex_walk_group_sPO bigF).ok_rex_walk_atom_sPO hm hc A
end Go.Av.L
