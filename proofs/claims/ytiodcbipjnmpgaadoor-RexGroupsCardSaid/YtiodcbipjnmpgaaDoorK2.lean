/-
 Models of functions, and that the abstract run tells them. Written by lift2.py.
-/
import Derived.Test.YtiodcbipjnmpgaaDoorKCfg
import Derived.Test.YtiodcbipjnmpgaaDoorK1
namespace Go.Av.L
open Go.Av Go.Lib
set_option maxRecDepth 10000
set_option linter.unusedVariables false
set_option linter.unusedSimpArgs false
/-! ### (*boulter/rex.walk).nest -/
noncomputable def M_rex_walk_nest_sPOIO_L0 (p1 : Int) (p2 : List Int) (s : (List UInt8) × Int × Bool × Int × Int × Int × Int × Bool × (List S_tree_Node) × Int × Int) : Option (((List UInt8) × Int × Bool × Int × Int × Int × Int × Bool × (List S_tree_Node) × Int × Int) ⊕ (((List UInt8) × Int × Bool × Int × Int × Int × Int × Bool × (List S_tree_Node) × Int))) :=
 match s with
 | (x5, x6, x7, x8, x9, x10, x11, x12, x13, x14, x15) => iteB (decide (x15 ≥ (0 : Int))) ((ixV p2 x15).bind fun x26 => (M_rex_walk_add_sPOR (⟨x5, x6, x7, (⟨x13, x8⟩ : S_tree_Tree), x9, x10, x11, x12⟩ : S_rex_walk) (⟨p1, x26, x14, (0 : Int), (0 : Int), (0 : Int), (⟨(0 : Int), (0 : Int), (0 : Int), (0 : Int)⟩ : A4_uint64)⟩ : S_tree_Node)).bind fun (x27, x28, x29) => some (.inl (x28.s_, x28.at_, x28.extended_, x28.t_.Root, x28.groups_, x28.depth_, x28.wrong_, x28.full_, x29, x27, IntKind.i64.wrap (x15 - (1 : Int))))) (some (.inr (x5, x6, x7, x8, x9, x10, x11, x12, x13, x14)))
noncomputable def M_rex_walk_nest_sPOIO (p0 : S_rex_walk) (p1 : Int) (p2 : List Int) : Option (Int × S_rex_walk × (List S_tree_Node)) :=
 iteB ((p2.length : Int) == (0 : Int)) ((M_rex_walk_add_sPOR p0 (⟨(0 : Int), (0 : Int), (0 : Int), (0 : Int), (0 : Int), (0 : Int), (⟨(0 : Int), (0 : Int), (0 : Int), (0 : Int)⟩ : A4_uint64)⟩ : S_tree_Node)).bind fun (x1, x2, x3) => some (x1, (⟨x2.s_, x2.at_, x2.extended_, (⟨x3, x2.t_.Root⟩ : S_tree_Tree), x2.groups_, x2.depth_, x2.wrong_, x2.full_⟩ : S_rex_walk), x3)) ((ixV p2 (IntKind.i64.wrap ((p2.length : Int) - (1 : Int)))).bind fun x4 => (loop (M_rex_walk_nest_sPOIO_L0 p1 p2) (p0.s_, p0.at_, p0.extended_, p0.t_.Root, p0.groups_, p0.depth_, p0.wrong_, p0.full_, p0.t_.Nodes, x4, IntKind.i64.wrap ((p2.length : Int) - (2 : Int)))).bind fun (x16, x17, x18, x19, x20, x21, x22, x23, x24, x25) => some (x25, (⟨x16, x17, x18, (⟨x24, x19⟩ : S_tree_Tree), x20, x21, x22, x23⟩ : S_rex_walk), x24))
theorem ok_rex_walk_nest_sPOIO {g : Gd} {h : AHeap} {F : List Ck} {p0 : S_rex_walk} {p1 : Int} {p2 : List Int} {bp0 : Nat} {rp0_3 : Option Nat} {rp2 : Option Nat} {q0 : Int} {u0 : S_rex_walk} {u1 : List S_tree_Node} {av : List AVal} (hm : M_rex_walk_nest_sPOIO p0 p1 p2 = some (q0, u0, u1)) (hc : canL (cfg.still 22) av = [.ptr (some (bp0, 0)), .int .i64 p1, rowV rp2 p2.length]) (A : HH g h [.obj bp0 (.cells none 2 [.str p0.s_, .int .i64 p0.at_, .bool p0.extended_, rowV rp0_3 p0.t_.Nodes.length, .int .i64 p0.t_.Root, .int .i64 p0.groups_, .int .i64 p0.depth_, .int .i64 p0.wrong_, .bool p0.full_]), .lst rp0_3 45 (lst e_S_tree_Node p0.t_.Nodes), .lst rp2 3 (lst (eI .i64) p2)] F) : ∃ v h', Runs cfg g h 22 av v h' ∧ ∃ (r'1 : Option Nat), v = .int .i64 q0 ∧ HH g h' [.obj bp0 (.cells none 2 [.str u0.s_, .int .i64 u0.at_, .bool u0.extended_, rowV r'1 u1.length, .int .i64 u0.t_.Root, .int .i64 u0.groups_, .int .i64 u0.depth_, .int .i64 u0.wrong_, .bool u0.full_]), .lst r'1 45 (lst e_S_tree_Node u1), .lst rp2 3 (lst (eI .i64) p2)] F := by
 refine runsQ1 (n := 38) (rs := [.tmp 6]) (by kernel_rfl) hc (by kernel_rfl) ?_
 clear hc
 unfold M_rex_walk_nest_sPOIO at hm
 refine start (n := 38) [(0, .ptr (some (bp0, 0))), (1, .int .i64 p1), (2, rowV rp2 p2.length)] (by kernel_rfl) (by kernel_rfl) ?_
 intro fr H
 refine aw_seq (by kernel_rfl) ?_
 refine aw_reg (id := 0) (n := 1) [(0, [])] (by kernel_rfl) (by kernel_rfl) ?_
 refine at_seg [(0, [])] [(0, .ptr (some (bp0, 0))), (1, .int .i64 p1), (2, rowV rp2 p2.length)] H (noU_all rfl) (fun fr => by kernel_rfl) ?_
 intro fr H
 refine at_nil ?_
 show AW cfg 22 g (right (bodyC cfg.P 22)) fr h _
 refine aw_seq (by kernel_rfl) ?_
 refine aw_seq (by kernel_rfl) ?_
 refine aw_reg (id := 1) (n := 3) [(0, []), (1, []), (2, [])] (by kernel_rfl) (by kernel_rfl) ?_
 refine at_seg [(0, []), (1, []), (2, [])] [(0, .ptr (some (bp0, 0))), (1, .int .i64 p1), (2, rowV rp2 p2.length), (11, .bool ((p2.length : Int) == (0 : Int)))] H (noU_all rfl) (fun fr => by kernel_rfl) ?_
 intro fr H
 refine at_nil ?_
 show AW cfg 22 g (right (left (right (bodyC cfg.P 22)))) fr h _
 rcases iteB_some hm with ⟨hb, hm⟩ | ⟨hb, hm⟩
 ·replace H := H.know 11 hb (by kernel_rfl)
  refine aw_true (x := .tmp 11) (by kernel_rfl) H (fun fr => by kernel_rfl) ?_
  refine aw_seq (by kernel_rfl) ?_
  refine aw_reg (id := 2) (n := 4) [(0, []), (1, []), (2, []), (3, [])] (by kernel_rfl) (by kernel_rfl) ?_
  refine at_seg [(0, []), (1, [])] [(12, .ptr (some (bp0, 0))), (13, .agg [.int .i64 (0 : Int), .int .i64 (0 : Int), .int .i64 (0 : Int), .int .i64 (0 : Int), .int .i64 (0 : Int), .int .i64 (0 : Int), .int .u64 (0 : Int), .int .u64 (0 : Int), .int .u64 (0 : Int), .int .u64 (0 : Int)])] H (noU_all rfl) (fun fr => by kernel_rfl) ?_
  intro fr H
  have A1 := A.cut 2
  obtain ⟨⟨x1, x2, x3⟩, hx, hm⟩ := bind_some hm
  obtain ⟨v1, h1, hr, r1, rfl, A1⟩ := ok_rex_walk_add_sPOR (av := [.ptr (some (bp0, 0)), .agg [.int .i64 (0 : Int), .int .i64 (0 : Int), .int .i64 (0 : Int), .int .i64 (0 : Int), .int .i64 (0 : Int), .int .i64 (0 : Int), .int .u64 (0 : Int), .int .u64 (0 : Int), .int .u64 (0 : Int), .int .u64 (0 : Int)]]) hx (by kernel_rfl) A1
  replace A : HH g h1 [.obj bp0 (.cells none 2 [.str x2.s_, .int .i64 x2.at_, .bool x2.extended_, rowV r1 x3.length, .int .i64 x2.t_.Root, .int .i64 x2.groups_, .int .i64 x2.depth_, .int .i64 x2.wrong_, .bool x2.full_]), .lst r1 45 (lst e_S_tree_Node x3), .lst rp2 3 (lst (eI .i64) p2)] F := A.glue0 (n := 2) A1
  refine at_step (v := .int .i64 x1) (h1 := h1) [(14, .int .i64 x1)] H (fun fr => by kernel_rfl) (fun fr => Steps.call (by kernel_rfl) hr) ?_
  intro fr t H
  refine at_seg [(3, [])] [(6, .int .i64 x1)] H (noU_all rfl) (fun fr => by kernel_rfl) ?_
  intro fr H
  refine at_nil ?_
  show AW cfg 22 g (right (left (right (left (right (bodyC cfg.P 22)))))) fr h1 _
  refine aw_ret (by kernel_rfl) ?_
  have e0 := Option.some.inj hm
  obtain ⟨y0, z0⟩ := Prod.mk.inj e0
  obtain ⟨y1, z1⟩ := Prod.mk.inj z0
  subst y0
  subst y1
  subst z1
  refine ⟨.inl rfl, .int .i64 x1, resH H (fun fr => by kernel_rfl), ?_⟩
  exact ⟨r1, rfl, A⟩
 ·replace H := H.know 11 hb (by kernel_rfl)
  refine aw_false (x := .tmp 11) (by kernel_rfl) H (fun fr => by kernel_rfl) ?_
  refine aw_skip (by kernel_rfl) ?_
  show AW cfg 22 g (right (right (bodyC cfg.P 22))) fr h _
  refine aw_seq (by kernel_rfl) ?_
  refine aw_reg (id := 3) (n := 7) [(0, []), (1, []), (2, []), (3, []), (4, []), (5, []), (6, [])] (by kernel_rfl) (by kernel_rfl) ?_
  refine at_seg [(0, []), (1, []), (2, []), (3, [])] [(0, .ptr (some (bp0, 0))), (1, .int .i64 p1), (2, rowV rp2 p2.length), (15, rowV rp2 p2.length), (18, .int .i64 (IntKind.i64.wrap ((p2.length : Int) - (1 : Int))))] H (noU_all rfl) (fun fr => by kernel_rfl) ?_
  intro fr H
  obtain ⟨x4, hx, hm⟩ := bind_some hm
  obtain ⟨i1, er1, _, hx, hq1⟩ := HH.ixO (encI .i64) (by decide) A 2 (xs := p2) rfl hx
  refine at_step (v := .ptr (some (i1, (IntKind.i64.wrap ((p2.length : Int) - (1 : Int))).toNat * 1))) (h1 := h) [(0, .ptr (some (bp0, 0))), (1, .int .i64 p1), (2, rowV rp2 p2.length), (19, .ptr (some (i1, (IntKind.i64.wrap ((p2.length : Int) - (1 : Int))).toNat * 1)))] H (fun fr => by kernel_rfl) (fun fr => .of (s_ixL (s := rowS rp2 p2.length) (by kernel_rfl) hx)) ?_
  intro fr t H
  refine at_step (v := .int .i64 x4) (h1 := h) [(0, .ptr (some (bp0, 0))), (1, .int .i64 p1), (2, rowV rp2 p2.length), (20, .int .i64 x4)] H (fun fr => by kernel_rfl) (fun fr => .of (s_ld (by kernel_rfl) (row_ld1 (encI .i64) (HH.row A 2 rfl er1) hq1 (o := 0) rfl))) ?_
  intro fr t H
  refine at_seg [(6, [])] [(0, .ptr (some (bp0, 0))), (1, .int .i64 p1), (2, rowV rp2 p2.length), (7, .int .i64 x4)] H (noU_all rfl) (fun fr => by kernel_rfl) ?_
  intro fr H
  refine at_nil ?_
  show AW cfg 22 g (right (right (right (bodyC cfg.P 22)))) fr h _
  refine aw_seq (by kernel_rfl) ?_
  refine aw_seq (by kernel_rfl) ?_
  refine aw_reg (id := 4) (n := 4) [(0, []), (1, []), (2, []), (3, [])] (by kernel_rfl) (by kernel_rfl) ?_
  refine at_seg [(0, []), (1, []), (2, []), (3, [])] [(0, .ptr (some (bp0, 0))), (1, .int .i64 p1), (2, rowV rp2 p2.length), (7, .int .i64 x4), (8, .int .i64 (IntKind.i64.wrap ((p2.length : Int) - (2 : Int))))] H (noU_all rfl) (fun fr => by kernel_rfl) ?_
  intro fr H
  refine at_nil ?_
  show AW cfg 22 g (right (left (right (right (right (bodyC cfg.P 22)))))) fr h _
  refine aw_block (id := 0) (by kernel_rfl) ?_
  obtain ⟨o1, ho, hm⟩ := bind_some hm
  refine aw_mono (Q' := fun e fr' h' => (∃ (x16 : List UInt8) (x17 : Int) (x18 : Bool) (x19 : Int) (x20 : Int) (x21 : Int) (x22 : Int) (x23 : Bool) (x24 : List S_tree_Node) (x25 : Int), e = .exit 0 ∧ (x16, x17, x18, x19, x20, x21, x22, x23, x24, x25) = o1 ∧ ∃ (r3 : Option Nat), Has fr' 38 [(7, .int .i64 x25)] ∧ HH g h' [.obj bp0 (.cells none 2 [.str x16, .int .i64 x17, .bool x18, rowV r3 x24.length, .int .i64 x19, .int .i64 x20, .int .i64 x21, .int .i64 x22, .bool x23]), .lst r3 45 (lst e_S_tree_Node x24), .lst rp2 3 (lst (eI .i64) p2)] F) ∨ False) ?_ ?_
  ·refine aw_loop (by kernel_rfl) (fun (s : (List UInt8) × Int × Bool × Int × Int × Int × Int × Bool × (List S_tree_Node) × Int × Int) fr' h' => ∃ (x5 : List UInt8) (x6 : Int) (x7 : Bool) (x8 : Int) (x9 : Int) (x10 : Int) (x11 : Int) (x12 : Bool) (x13 : List S_tree_Node) (x14 : Int) (x15 : Int), (x5, x6, x7, x8, x9, x10, x11, x12, x13, x14, x15) = s ∧ ∃ (r2 : Option Nat), Has fr' 38 [(0, .ptr (some (bp0, 0))), (1, .int .i64 p1), (2, rowV rp2 p2.length), (7, .int .i64 x14), (8, .int .i64 x15)] ∧ HH g h' [.obj bp0 (.cells none 2 [.str x5, .int .i64 x6, .bool x7, rowV r2 x13.length, .int .i64 x8, .int .i64 x9, .int .i64 x10, .int .i64 x11, .bool x12]), .lst r2 45 (lst e_S_tree_Node x13), .lst rp2 3 (lst (eI .i64) p2)] F) ho ⟨p0.s_, p0.at_, p0.extended_, p0.t_.Root, p0.groups_, p0.depth_, p0.wrong_, p0.full_, p0.t_.Nodes, x4, IntKind.i64.wrap ((p2.length : Int) - (2 : Int)), rfl, rp0_3, H.less _ (fun fr => by kernel_rfl), A⟩ ?_
   clear ho hm H A
   intro s q fr h2 hI hm
   obtain ⟨x5, x6, x7, x8, x9, x10, x11, x12, x13, x14, x15, rfl, r2, H, A⟩ := hI
   unfold M_rex_walk_nest_sPOIO_L0 at hm
   refine aw_seq (by kernel_rfl) ?_
   refine aw_seq (by kernel_rfl) ?_
   refine aw_reg (id := 5) (n := 2) [(0, []), (1, [])] (by kernel_rfl) (by kernel_rfl) ?_
   refine at_seg [(0, []), (1, [])] [(0, .ptr (some (bp0, 0))), (1, .int .i64 p1), (2, rowV rp2 p2.length), (7, .int .i64 x14), (8, .int .i64 x15), (25, .bool (decide (x15 ≥ (0 : Int))))] H (noU_all rfl) (fun fr => by kernel_rfl) ?_
   intro fr H
   refine at_nil ?_
   show AW cfg 22 g (right (left (left (left (right (left (right (right (right (bodyC cfg.P 22)))))))))) fr h2 _
   rcases iteB_some hm with ⟨hb, hm⟩ | ⟨hb, hm⟩
   ·replace H := H.know 25 hb (by kernel_rfl)
    refine aw_true (x := .tmp 25) (by kernel_rfl) H (fun fr => by kernel_rfl) ?_
    refine aw_skip (by kernel_rfl) ?_
    show AW cfg 22 g (right (left (left (right (left (right (right (right (bodyC cfg.P 22))))))))) fr h2 _
    refine aw_seq (by kernel_rfl) ?_
    refine aw_block (id := 1) (by kernel_rfl) ?_
    refine aw_reg (id := 7) (n := 10) [(0, []), (1, []), (2, []), (3, []), (4, []), (5, []), (6, []), (7, []), (8, []), (9, [])] (by kernel_rfl) (by kernel_rfl) ?_
    refine at_seg [(0, []), (1, []), (2, []), (3, [])] [(0, .ptr (some (bp0, 0))), (1, .int .i64 p1), (2, rowV rp2 p2.length), (7, .int .i64 x14), (8, .int .i64 x15), (28, .ptr (some (bp0, 0))), (29, .int .i64 p1), (30, rowV rp2 p2.length), (31, .int .i64 x15)] H (noU_all rfl) (fun fr => by kernel_rfl) ?_
    intro fr H
    obtain ⟨x26, hx, hm⟩ := bind_some hm
    obtain ⟨i2, er2, _, hx, hq2⟩ := HH.ixO (encI .i64) (by decide) A 2 (xs := p2) rfl hx
    refine at_step (v := .ptr (some (i2, x15.toNat * 1))) (h1 := h2) [(0, .ptr (some (bp0, 0))), (1, .int .i64 p1), (2, rowV rp2 p2.length), (7, .int .i64 x14), (8, .int .i64 x15), (28, .ptr (some (bp0, 0))), (29, .int .i64 p1), (32, .ptr (some (i2, x15.toNat * 1)))] H (fun fr => by kernel_rfl) (fun fr => .of (s_ixL (s := rowS rp2 p2.length) (by kernel_rfl) hx)) ?_
    intro fr t H
    refine at_step (v := .int .i64 x26) (h1 := h2) [(0, .ptr (some (bp0, 0))), (1, .int .i64 p1), (2, rowV rp2 p2.length), (7, .int .i64 x14), (8, .int .i64 x15), (28, .ptr (some (bp0, 0))), (29, .int .i64 p1), (33, .int .i64 x26)] H (fun fr => by kernel_rfl) (fun fr => .of (s_ld (by kernel_rfl) (row_ld1 (encI .i64) (HH.row A 2 rfl er2) hq2 (o := 0) rfl))) ?_
    intro fr t H
    refine at_seg [(6, []), (7, [])] [(0, .ptr (some (bp0, 0))), (1, .int .i64 p1), (2, rowV rp2 p2.length), (8, .int .i64 x15), (28, .ptr (some (bp0, 0))), (35, .agg [.int .i64 p1, .int .i64 x26, .int .i64 x14, .int .i64 (0 : Int), .int .i64 (0 : Int), .int .i64 (0 : Int), .int .u64 (0 : Int), .int .u64 (0 : Int), .int .u64 (0 : Int), .int .u64 (0 : Int)])] H (noU_all rfl) (fun fr => by kernel_rfl) ?_
    intro fr H
    have A1 := A.cut 2
    obtain ⟨⟨x27, x28, x29⟩, hx, hm⟩ := bind_some hm
    obtain ⟨v1, h3, hr, r4, rfl, A1⟩ := ok_rex_walk_add_sPOR (av := [.ptr (some (bp0, 0)), .agg [.int .i64 p1, .int .i64 x26, .int .i64 x14, .int .i64 (0 : Int), .int .i64 (0 : Int), .int .i64 (0 : Int), .int .u64 (0 : Int), .int .u64 (0 : Int), .int .u64 (0 : Int), .int .u64 (0 : Int)]]) hx (by kernel_rfl) A1
    replace A : HH g h3 [.obj bp0 (.cells none 2 [.str x28.s_, .int .i64 x28.at_, .bool x28.extended_, rowV r4 x29.length, .int .i64 x28.t_.Root, .int .i64 x28.groups_, .int .i64 x28.depth_, .int .i64 x28.wrong_, .bool x28.full_]), .lst r4 45 (lst e_S_tree_Node x29), .lst rp2 3 (lst (eI .i64) p2)] F := A.glue0 (n := 2) A1
    refine at_step (v := .int .i64 x27) (h1 := h3) [(0, .ptr (some (bp0, 0))), (1, .int .i64 p1), (2, rowV rp2 p2.length), (8, .int .i64 x15), (36, .int .i64 x27)] H (fun fr => by kernel_rfl) (fun fr => Steps.call (by kernel_rfl) hr) ?_
    intro fr t H
    refine at_seg [(9, [])] [(0, .ptr (some (bp0, 0))), (1, .int .i64 p1), (2, rowV rp2 p2.length), (7, .int .i64 x27), (8, .int .i64 x15)] H (noU_all rfl) (fun fr => by kernel_rfl) ?_
    intro fr H
    refine at_nil ?_
    show AW cfg 22 g (right (right (left (left (right (left (right (right (right (bodyC cfg.P 22)))))))))) fr h3 _
    refine aw_reg (id := 6) (n := 3) [(0, []), (1, []), (2, [])] (by kernel_rfl) (by kernel_rfl) ?_
    refine at_seg [(0, []), (1, []), (2, [])] [(0, .ptr (some (bp0, 0))), (1, .int .i64 p1), (2, rowV rp2 p2.length), (7, .int .i64 x27), (8, .int .i64 (IntKind.i64.wrap (x15 - (1 : Int))))] H (noU_all rfl) (fun fr => by kernel_rfl) ?_
    intro fr H
    refine at_nil ?_
    exact Exists.intro (x28.s_, x28.at_, x28.extended_, x28.t_.Root, x28.groups_, x28.depth_, x28.wrong_, x28.full_, x29, x27, IntKind.i64.wrap (x15 - (1 : Int))) (And.intro (Option.some.inj hm).symm ⟨x28.s_, x28.at_, x28.extended_, x28.t_.Root, x28.groups_, x28.depth_, x28.wrong_, x28.full_, x29, x27, IntKind.i64.wrap (x15 - (1 : Int)), rfl, r4, H.less _ (fun fr => by kernel_rfl), A⟩)
   ·replace H := H.know 25 hb (by kernel_rfl)
    refine aw_false (x := .tmp 25) (by kernel_rfl) H (fun fr => by kernel_rfl) ?_
    refine aw_exit (i := 0) (by kernel_rfl) ?_
    exact Exists.intro _ (And.intro (Option.some.inj hm).symm (fun e => Or.inl ⟨x5, x6, x7, x8, x9, x10, x11, x12, x13, x14, rfl, e, r2, H.less _ (fun fr => by kernel_rfl), A⟩))
  ·clear ho
   clear A
   intro e fr h4 hQ
   rcases hQ with ⟨x16, x17, x18, x19, x20, x21, x22, x23, x24, x25, rfl, rfl, r3, H, A⟩ | hF
   ·skip
    show AW cfg 22 g (right (right (right (right (bodyC cfg.P 22))))) fr h4 _
    refine aw_seq (by kernel_rfl) ?_
    refine aw_reg (id := 8) (n := 2) [(0, []), (1, [])] (by kernel_rfl) (by kernel_rfl) ?_
    refine at_seg [(0, []), (1, [])] [(6, .int .i64 x25)] H (noU_all rfl) (fun fr => by kernel_rfl) ?_
    intro fr H
    refine at_nil ?_
    show AW cfg 22 g (right (right (right (right (right (bodyC cfg.P 22)))))) fr h4 _
    refine aw_ret (by kernel_rfl) ?_
    have e0 := Option.some.inj hm
    obtain ⟨y0, z0⟩ := Prod.mk.inj e0
    obtain ⟨y1, z1⟩ := Prod.mk.inj z0
    subst y0
    subst y1
    subst z1
    refine ⟨.inl rfl, .int .i64 x25, resH H (fun fr => by kernel_rfl), ?_⟩
    exact ⟨r3, rfl, A⟩
   ·exact hF.elim
/-! ### (boulter/tree.Tree).Right -/
noncomputable def M_tree_Tree_Right_L0 (p0 : S_tree_Tree) (s : Int) : Option ((Int) ⊕ ((Unit) ⊕ (Bool))) :=
 match s with
 | x1 => iteB (decide (x1 < (p0.Nodes.length : Int))) ((ixV p0.Nodes x1).bind fun x3 => (M_tree_may x3 x1).bind fun x4 => iteB (!x4) (some (.inr (.inr false))) (some (.inl (IntKind.i64.wrap (x1 + (1 : Int)))))) (some (.inr (.inl ())))
noncomputable def M_tree_Tree_Right (p0 : S_tree_Tree) : Option (Bool) :=
 iteB (((decide ((p0.Nodes.length : Int) > (1024 : Int))) || (decide (p0.Root < (0 : Int)))) || (decide (p0.Root ≥ (p0.Nodes.length : Int)))) (some false) ((loop (M_tree_Tree_Right_L0 p0) (0 : Int)).bind fun o1 => (match o1 with | .inl _ => some true | .inr x2 => some x2))
theorem ok_tree_Tree_Right {g : Gd} {h : AHeap} {F : List Ck} {p0 : S_tree_Tree} {q0 : Bool} {av : List AVal} (hm : M_tree_Tree_Right p0 = some q0) (hc : canL (cfg.still 8) av = [.agg [vs e_S_tree_Node p0.Nodes, .int .i64 p0.Root]]) (A : HH g h [] F) : ∃ v h', Runs cfg g h 8 av v h' ∧ v = .bool q0 ∧ HH g h' [] F := by
 refine runsQ1 (n := 35) (rs := [.tmp 2]) (by kernel_rfl) hc (by kernel_rfl) ?_
 clear hc
 unfold M_tree_Tree_Right at hm
 refine start (n := 35) [(0, .agg [vs e_S_tree_Node p0.Nodes, .int .i64 p0.Root])] (by kernel_rfl) (by kernel_rfl) ?_
 intro fr H
 refine aw_seq (by kernel_rfl) ?_
 refine aw_reg (id := 0) (n := 2) [(0, []), (1, [])] (by kernel_rfl) (by kernel_rfl) ?_
 obtain ⟨h1, e1⟩ : ∃ x, x = h.push (.cells none 2 [vs e_S_tree_Node p0.Nodes, .int .i64 p0.Root]) := ⟨_, rfl⟩
 replace A := (A.push _).to e1
 refine at_step (v := .ptr (some (h.size, 0))) (h1 := h1) [(1, .ptr (some (h.size, 0)))] H (fun fr => by kernel_rfl) (fun fr => .of (s_n' (by kernel_rfl) (congrArg some e1.symm))) ?_
 intro fr t H
 refine at_seg [(1, [])] [(1, .ptr (some (h.size, 0)))] H (noU_all rfl) (fun fr => by kernel_rfl) ?_
 intro fr H
 refine at_nil ?_
 show AW cfg 8 g (right (bodyC cfg.P 8)) fr h1 _
 refine aw_seq (by kernel_rfl) ?_
 refine aw_seq (by kernel_rfl) ?_
 refine aw_reg (id := 1) (n := 17) [(0, []), (1, []), (2, []), (3, []), (4, []), (5, []), (6, []), (7, []), (8, []), (9, []), (10, []), (11, []), (12, []), (13, []), (14, []), (15, []), (16, [])] (by kernel_rfl) (by kernel_rfl) ?_
 refine at_seg [(0, [])] [(1, .ptr (some (h.size, 0))), (5, .ptr (some (h.size, 0)))] H (noU_all rfl) (fun fr => by kernel_rfl) ?_
 intro fr H
 refine at_step (v := vs e_S_tree_Node p0.Nodes) (h1 := h1) [(1, .ptr (some (h.size, 0))), (6, vs e_S_tree_Node p0.Nodes)] H (fun fr => by kernel_rfl) (fun fr => .of (s_ld (by kernel_rfl) (A.ld1 0 rfl (o := 0) rfl))) ?_
 intro fr t H
 refine at_seg [(2, []), (3, []), (4, [])] [(1, .ptr (some (h.size, 0))), (9, .bool (decide ((p0.Nodes.length : Int) > (1024 : Int))))] H (noU_all rfl) (fun fr => by kernel_rfl) ?_
 intro fr H
 refine at_cut [(5, []), (6, []), (7, []), (8, [])] (fun fr' h' => h1 = h' ∧ Has fr' 35 [(1, .ptr (some (h.size, 0))), (13, .bool ((decide ((p0.Nodes.length : Int) > (1024 : Int))) || (decide (p0.Root < (0 : Int)))))]) ?_ ?_
 ·cases hb : (decide ((p0.Nodes.length : Int) > (1024 : Int)) : Bool) with
  | true =>
   replace H := H.know 9 hb (by kernel_rfl)
   refine at_seg [(5, []), (6, []), (7, []), (8, [])] [(1, .ptr (some (h.size, 0))), (13, .bool true)] H (noU_all rfl) (fun fr => by kernel_rfl) ?_
   intro fr H
   exact at_nil ⟨rfl, by first | exact H.less _ (fun fr => by rfl) | exact H.less _ (fun fr => by rw [hb]; rfl)⟩
  | false =>
   replace H := H.know 9 hb (by kernel_rfl)
   refine at_seg [(5, [])] [(1, .ptr (some (h.size, 0))), (9, .bool false), (10, .ptr (some (h.size, 1)))] H (noU_all rfl) (fun fr => by kernel_rfl) ?_
   intro fr H
   refine at_step (v := .int .i64 p0.Root) (h1 := h1) [(1, .ptr (some (h.size, 0))), (9, .bool false), (11, .int .i64 p0.Root)] H (fun fr => by kernel_rfl) (fun fr => .of (s_ld (by kernel_rfl) (A.ld1 0 rfl (o := 1) rfl))) ?_
   intro fr t H
   refine at_seg [(7, []), (8, [])] [(1, .ptr (some (h.size, 0))), (13, .bool (decide (p0.Root < (0 : Int))))] H (noU_all rfl) (fun fr => by kernel_rfl) ?_
   intro fr H
   exact at_nil ⟨rfl, by first | exact H.less _ (fun fr => by rfl) | exact H.less _ (fun fr => by rw [hb]; rfl)⟩
 ·intro t fr h' hK
  obtain ⟨e, H⟩ := hK
  subst e
  refine at_seg [(9, [])] [(1, .ptr (some (h.size, 0))), (14, .bool ((decide ((p0.Nodes.length : Int) > (1024 : Int))) || (decide (p0.Root < (0 : Int)))))] H (noU_all rfl) (fun fr => by kernel_rfl) ?_
  intro fr H
  refine at_cut [(10, []), (11, []), (12, []), (13, []), (14, []), (15, []), (16, [])] (fun fr' h' => h1 = h' ∧ Has fr' 35 [(1, .ptr (some (h.size, 0))), (21, .bool (((decide ((p0.Nodes.length : Int) > (1024 : Int))) || (decide (p0.Root < (0 : Int)))) || (decide (p0.Root ≥ (p0.Nodes.length : Int)))))]) ?_ ?_
  ·cases hb : ((decide ((p0.Nodes.length : Int) > (1024 : Int))) || (decide (p0.Root < (0 : Int))) : Bool) with
   | true =>
    replace H := H.know 14 hb (by kernel_rfl)
    refine at_seg [(10, []), (11, []), (12, []), (13, []), (14, []), (15, []), (16, [])] [(1, .ptr (some (h.size, 0))), (21, .bool true)] H (noU_all rfl) (fun fr => by kernel_rfl) ?_
    intro fr H
    exact at_nil ⟨rfl, by first | exact H.less _ (fun fr => by rfl) | exact H.less _ (fun fr => by rw [hb]; rfl)⟩
   | false =>
    replace H := H.know 14 hb (by kernel_rfl)
    refine at_seg [(10, [])] [(1, .ptr (some (h.size, 0))), (14, .bool false), (15, .ptr (some (h.size, 1)))] H (noU_all rfl) (fun fr => by kernel_rfl) ?_
    intro fr H
    refine at_step (v := .int .i64 p0.Root) (h1 := h1) [(1, .ptr (some (h.size, 0))), (14, .bool false), (16, .int .i64 p0.Root)] H (fun fr => by kernel_rfl) (fun fr => .of (s_ld (by kernel_rfl) (A.ld1 0 rfl (o := 1) rfl))) ?_
    intro fr t H
    refine at_seg [(12, [])] [(1, .ptr (some (h.size, 0))), (14, .bool false), (16, .int .i64 p0.Root), (17, .ptr (some (h.size, 0)))] H (noU_all rfl) (fun fr => by kernel_rfl) ?_
    intro fr H
    refine at_step (v := vs e_S_tree_Node p0.Nodes) (h1 := h1) [(1, .ptr (some (h.size, 0))), (14, .bool false), (16, .int .i64 p0.Root), (18, vs e_S_tree_Node p0.Nodes)] H (fun fr => by kernel_rfl) (fun fr => .of (s_ld (by kernel_rfl) (A.ld1 0 rfl (o := 0) rfl))) ?_
    intro fr t H
    refine at_seg [(14, []), (15, []), (16, [])] [(1, .ptr (some (h.size, 0))), (21, .bool (decide (p0.Root ≥ (p0.Nodes.length : Int))))] H (noU_all rfl) (fun fr => by kernel_rfl) ?_
    intro fr H
    exact at_nil ⟨rfl, by first | exact H.less _ (fun fr => by rfl) | exact H.less _ (fun fr => by rw [hb]; rfl)⟩
  ·intro t fr h' hK
   obtain ⟨e, H⟩ := hK
   subst e
   refine at_nil ?_
   show AW cfg 8 g (right (left (right (bodyC cfg.P 8)))) fr h1 _
   rcases iteB_some hm with ⟨hb, hm⟩ | ⟨hb, hm⟩
   ·replace H := H.know 21 hb (by kernel_rfl)
    refine aw_true (x := .tmp 21) (by kernel_rfl) H (fun fr => by kernel_rfl) ?_
    refine aw_seq (by kernel_rfl) ?_
    refine aw_reg (id := 2) (n := 1) [(0, [])] (by kernel_rfl) (by kernel_rfl) ?_
    refine at_seg [(0, [])] [(2, .bool false)] H (noU_all rfl) (fun fr => by kernel_rfl) ?_
    intro fr H
    refine at_nil ?_
    show AW cfg 8 g (right (left (right (left (right (bodyC cfg.P 8)))))) fr h1 _
    refine aw_ret (by kernel_rfl) ?_
    have e1 := Option.some.inj hm
    subst e1
    refine ⟨.inl rfl, .bool false, resH H (fun fr => by kernel_rfl), ?_⟩
    replace A : HH g h1 [] F := (HH.dropF A 0)
    exact ⟨rfl, A⟩
   ·replace H := H.know 21 hb (by kernel_rfl)
    refine aw_false (x := .tmp 21) (by kernel_rfl) H (fun fr => by kernel_rfl) ?_
    refine aw_skip (by kernel_rfl) ?_
    show AW cfg 8 g (right (right (bodyC cfg.P 8))) fr h1 _
    refine aw_seq (by kernel_rfl) ?_
    refine aw_seq (by kernel_rfl) ?_
    refine aw_reg (id := 3) (n := 4) [(0, []), (1, []), (2, []), (3, [])] (by kernel_rfl) (by kernel_rfl) ?_
    refine at_seg [(0, [])] [(22, .ptr (some (h.size, 0)))] H (noU_all rfl) (fun fr => by kernel_rfl) ?_
    intro fr H
    refine at_step (v := vs e_S_tree_Node p0.Nodes) (h1 := h1) [(23, vs e_S_tree_Node p0.Nodes)] H (fun fr => by kernel_rfl) (fun fr => .of (s_ld (by kernel_rfl) (A.ld1 0 rfl (o := 0) rfl))) ?_
    intro fr t H
    refine at_seg [(2, []), (3, [])] [(23, vs e_S_tree_Node p0.Nodes), (24, .int .i64 (p0.Nodes.length : Int)), (25, .int .i64 (0 : Int))] H (noU_all rfl) (fun fr => by kernel_rfl) ?_
    intro fr H
    refine at_nil ?_
    show AW cfg 8 g (right (left (right (right (bodyC cfg.P 8))))) fr h1 _
    refine aw_block (id := 0) (by kernel_rfl) ?_
    obtain ⟨o1, ho, hm⟩ := bind_some hm
    refine aw_mono (Q' := fun e fr' h' => (e = .exit 0 ∧ .inl () = o1 ∧ Has fr' 35 [] ∧ HH g h' [.obj h.size (.cells none 2 [vs e_S_tree_Node p0.Nodes, .int .i64 p0.Root])] F) ∨ (∃ (x2 : Bool), e = .ret ∧ .inr x2 = o1 ∧ Has fr' 35 [(2, .bool x2)] ∧ HH g h' [.obj h.size (.cells none 2 [vs e_S_tree_Node p0.Nodes, .int .i64 p0.Root])] F) ∨ False) ?_ ?_
    ·refine aw_loop (by kernel_rfl) (fun (s : Int) fr' h' => ∃ (x1 : Int), x1 = s ∧ Has fr' 35 [(23, vs e_S_tree_Node p0.Nodes), (24, .int .i64 (p0.Nodes.length : Int)), (25, .int .i64 x1)] ∧ HH g h' [.obj h.size (.cells none 2 [vs e_S_tree_Node p0.Nodes, .int .i64 p0.Root])] F) ho ⟨(0 : Int), rfl, H.less _ (fun fr => by kernel_rfl), A⟩ ?_
     clear ho hm H A
     intro s q fr h2 hI hm
     obtain ⟨x1, rfl, H, A⟩ := hI
     unfold M_tree_Tree_Right_L0 at hm
     refine aw_seq (by kernel_rfl) ?_
     refine aw_reg (id := 4) (n := 1) [(0, [])] (by kernel_rfl) (by kernel_rfl) ?_
     refine at_seg [(0, [])] [(23, vs e_S_tree_Node p0.Nodes), (24, .int .i64 (p0.Nodes.length : Int)), (25, .int .i64 x1), (26, .bool (decide (x1 < (p0.Nodes.length : Int))))] H (noU_all rfl) (fun fr => by kernel_rfl) ?_
     intro fr H
     refine at_nil ?_
     show AW cfg 8 g (right (left (left (right (left (right (right (bodyC cfg.P 8)))))))) fr h2 _
     refine aw_seq (by kernel_rfl) ?_
     rcases iteB_some hm with ⟨hb, hm⟩ | ⟨hb, hm⟩
     ·replace H := H.know 26 hb (by kernel_rfl)
      refine aw_true (x := .tmp 26) (by kernel_rfl) H (fun fr => by kernel_rfl) ?_
      refine aw_skip (by kernel_rfl) ?_
      show AW cfg 8 g (right (right (left (left (right (left (right (right (bodyC cfg.P 8))))))))) fr h2 _
      refine aw_seq (by kernel_rfl) ?_
      refine aw_block (id := 1) (by kernel_rfl) ?_
      refine aw_seq (by kernel_rfl) ?_
      refine aw_reg (id := 5) (n := 6) [(0, []), (1, []), (2, []), (3, []), (4, []), (5, [])] (by kernel_rfl) (by kernel_rfl) ?_
      refine at_seg [(0, [])] [(23, vs e_S_tree_Node p0.Nodes), (24, .int .i64 (p0.Nodes.length : Int)), (25, .int .i64 x1), (27, .int .i64 x1)] H (noU_all rfl) (fun fr => by kernel_rfl) ?_
      intro fr H
      obtain ⟨x3, hx, hm⟩ := bind_some hm
      refine at_step (v := .vptr (e_S_tree_Node x3)) (h1 := h2) [(23, vs e_S_tree_Node p0.Nodes), (24, .int .i64 (p0.Nodes.length : Int)), (25, .int .i64 x1), (27, .int .i64 x1), (28, .vptr (e_S_tree_Node x3))] H (fun fr => by kernel_rfl) (fun fr => .of (s_ixV (e := e_S_tree_Node) (x := x3) enc_S_tree_Node (by decide) (by kernel_rfl) hx)) ?_
      intro fr t H
      refine at_step (v := .agg (e_S_tree_Node x3)) (h1 := h2) [(23, vs e_S_tree_Node p0.Nodes), (24, .int .i64 (p0.Nodes.length : Int)), (25, .int .i64 x1), (27, .int .i64 x1), (29, .agg (e_S_tree_Node x3))] H (fun fr => by kernel_rfl) (fun fr => .of (s_lv (by kernel_rfl))) ?_
      intro fr t H
      obtain ⟨h3, e2⟩ : ∃ x, x = h2.push (.cells none 2 [.int .i64 (0 : Int), .int .i64 (0 : Int), .int .i64 (0 : Int), .int .i64 (0 : Int), .int .i64 (0 : Int), .int .i64 (0 : Int), .int .u64 (0 : Int), .int .u64 (0 : Int), .int .u64 (0 : Int), .int .u64 (0 : Int)]) := ⟨_, rfl⟩
      replace A := (A.push _).to e2
      refine at_step (v := .ptr (some (h2.size, 0))) (h1 := h3) [(4, .ptr (some (h2.size, 0))), (23, vs e_S_tree_Node p0.Nodes), (24, .int .i64 (p0.Nodes.length : Int)), (25, .int .i64 x1), (27, .int .i64 x1), (29, .agg (e_S_tree_Node x3))] H (fun fr => by kernel_rfl) (fun fr => .of (s_n' (by kernel_rfl) (congrArg some e2.symm))) ?_
      intro fr t H
      refine at_seg [(4, [])] [(3, .int .i64 x1), (4, .ptr (some (h2.size, 0))), (23, vs e_S_tree_Node p0.Nodes), (24, .int .i64 (p0.Nodes.length : Int)), (25, .int .i64 x1), (29, .agg (e_S_tree_Node x3))] H (noU_all rfl) (fun fr => by kernel_rfl) ?_
      intro fr H
      obtain ⟨h4, hx, A1⟩ := A.st 0 rfl (o := 0) (new := [.int .i64 x3.Kind, .int .i64 x3.A, .int .i64 x3.B, .int .i64 x3.Min, .int .i64 x3.Max, .int .i64 x3.Group, .int .u64 x3.Set.w0, .int .u64 x3.Set.w1, .int .u64 x3.Set.w2, .int .u64 x3.Set.w3]) (ds := [.int .i64 x3.Kind, .int .i64 x3.A, .int .i64 x3.B, .int .i64 x3.Min, .int .i64 x3.Max, .int .i64 x3.Group, .int .u64 x3.Set.w0, .int .u64 x3.Set.w1, .int .u64 x3.Set.w2, .int .u64 x3.Set.w3]) (Nat.le_of_ble_eq_true rfl) rfl rfl
      replace A : HH g h4 [.obj h2.size (.cells none 2 (e_S_tree_Node x3)), .obj h.size (.cells none 2 [vs e_S_tree_Node p0.Nodes, .int .i64 p0.Root])] F := A1
      refine at_step (v := .tuple []) (h1 := h4) [(3, .int .i64 x1), (4, .ptr (some (h2.size, 0))), (23, vs e_S_tree_Node p0.Nodes), (24, .int .i64 (p0.Nodes.length : Int)), (25, .int .i64 x1)] H (fun fr => by kernel_rfl) (fun fr => .of (s_stG (by kernel_rfl) (stG_st hx rfl))) ?_
      intro fr t H
      refine at_nil ?_
      show AW cfg 8 g (right (left (left (right (right (left (left (right (left (right (right (bodyC cfg.P 8)))))))))))) fr h4 _
      refine aw_seq (by kernel_rfl) ?_
      refine aw_reg (id := 6) (n := 4) [(0, []), (1, []), (2, []), (3, [])] (by kernel_rfl) (by kernel_rfl) ?_
      refine at_step (v := .agg (e_S_tree_Node x3)) (h1 := h4) [(3, .int .i64 x1), (23, vs e_S_tree_Node p0.Nodes), (24, .int .i64 (p0.Nodes.length : Int)), (25, .int .i64 x1), (30, .agg (e_S_tree_Node x3))] H (fun fr => by kernel_rfl) (fun fr => .of (s_ldA (by kernel_rfl) (A.ldA 0 rfl (o := 0) (n := 10) ⟨Nat.le_of_ble_eq_true rfl, rfl⟩))) ?_
      intro fr t H
      refine at_seg [(1, [])] [(23, vs e_S_tree_Node p0.Nodes), (24, .int .i64 (p0.Nodes.length : Int)), (25, .int .i64 x1), (30, .agg (e_S_tree_Node x3)), (31, .int .i64 x1)] H (noU_all rfl) (fun fr => by kernel_rfl) ?_
      intro fr H
      have A1 := A.cut 0
      obtain ⟨x4, hx, hm⟩ := bind_some hm
      obtain ⟨v1, h5, hr, rfl, A1⟩ := ok_tree_may (av := [.agg (e_S_tree_Node x3), .int .i64 x1]) hx (by kernel_rfl) A1
      replace A : HH g h5 [.obj h2.size (.cells none 2 (e_S_tree_Node x3)), .obj h.size (.cells none 2 [vs e_S_tree_Node p0.Nodes, .int .i64 p0.Root])] F := A.glue0 (n := 0) A1
      refine at_step (v := .bool x4) (h1 := h5) [(23, vs e_S_tree_Node p0.Nodes), (24, .int .i64 (p0.Nodes.length : Int)), (25, .int .i64 x1), (32, .bool x4)] H (fun fr => by kernel_rfl) (fun fr => Steps.call (by kernel_rfl) hr) ?_
      intro fr t H
      refine at_seg [(3, [])] [(23, vs e_S_tree_Node p0.Nodes), (24, .int .i64 (p0.Nodes.length : Int)), (25, .int .i64 x1), (33, .bool (!x4))] H (noU_all rfl) (fun fr => by kernel_rfl) ?_
      intro fr H
      refine at_nil ?_
      show AW cfg 8 g (right (right (left (left (right (right (left (left (right (left (right (right (bodyC cfg.P 8))))))))))))) fr h5 _
      rcases iteB_some hm with ⟨hb, hm⟩ | ⟨hb, hm⟩
      ·replace H := H.know 33 hb (by kernel_rfl)
       refine aw_true (x := .tmp 33) (by kernel_rfl) H (fun fr => by kernel_rfl) ?_
       refine aw_seq (by kernel_rfl) ?_
       refine aw_reg (id := 7) (n := 1) [(0, [])] (by kernel_rfl) (by kernel_rfl) ?_
       refine at_seg [(0, [])] [(2, .bool false)] H (noU_all rfl) (fun fr => by kernel_rfl) ?_
       intro fr H
       refine at_nil ?_
       show AW cfg 8 g (right (left (right (right (left (left (right (right (left (left (right (left (right (right (bodyC cfg.P 8))))))))))))))) fr h5 _
       refine aw_ret (by kernel_rfl) ?_
       replace A : HH g h5 [.obj h.size (.cells none 2 [vs e_S_tree_Node p0.Nodes, .int .i64 p0.Root])] F := (HH.dropF (A.front 1 rfl) 1)
       exact Exists.intro _ (And.intro (Option.some.inj hm).symm (fun e => Or.inr (Or.inl ⟨false, rfl, e, H.less _ (fun fr => by kernel_rfl), A⟩)))
      ·replace H := H.know 33 hb (by kernel_rfl)
       refine aw_false (x := .tmp 33) (by kernel_rfl) H (fun fr => by kernel_rfl) ?_
       refine aw_skip (by kernel_rfl) ?_
       show AW cfg 8 g (right (right (right (left (left (right (left (right (right (bodyC cfg.P 8)))))))))) fr h5 _
       refine aw_reg (id := 8) (n := 2) [(0, []), (1, [])] (by kernel_rfl) (by kernel_rfl) ?_
       refine at_seg [(0, []), (1, [])] [(23, vs e_S_tree_Node p0.Nodes), (24, .int .i64 (p0.Nodes.length : Int)), (25, .int .i64 (IntKind.i64.wrap (x1 + (1 : Int))))] H (noU_all rfl) (fun fr => by kernel_rfl) ?_
       intro fr H
       refine at_nil ?_
       replace A : HH g h5 [.obj h.size (.cells none 2 [vs e_S_tree_Node p0.Nodes, .int .i64 p0.Root])] F := (HH.dropF (A.front 1 rfl) 1)
       exact Exists.intro (IntKind.i64.wrap (x1 + (1 : Int))) (And.intro (Option.some.inj hm).symm ⟨IntKind.i64.wrap (x1 + (1 : Int)), rfl, H.less _ (fun fr => by kernel_rfl), A⟩)
     ·replace H := H.know 26 hb (by kernel_rfl)
      refine aw_false (x := .tmp 26) (by kernel_rfl) H (fun fr => by kernel_rfl) ?_
      refine aw_exit (i := 0) (by kernel_rfl) ?_
      exact Exists.intro _ (And.intro (Option.some.inj hm).symm (fun e => Or.inl ⟨rfl, e, H.less _ (fun fr => by kernel_rfl), A⟩))
    ·clear ho
     clear A
     intro e fr h6 hQ
     rcases hQ with ⟨rfl, rfl, H, A⟩ | ⟨x2, rfl, rfl, H, A⟩ | hF
     ·skip
      show AW cfg 8 g (right (right (right (bodyC cfg.P 8)))) fr h6 _
      refine aw_seq (by kernel_rfl) ?_
      refine aw_reg (id := 9) (n := 1) [(0, [])] (by kernel_rfl) (by kernel_rfl) ?_
      refine at_seg [(0, [])] [(2, .bool true)] H (noU_all rfl) (fun fr => by kernel_rfl) ?_
      intro fr H
      refine at_nil ?_
      show AW cfg 8 g (right (right (right (right (bodyC cfg.P 8))))) fr h6 _
      refine aw_ret (by kernel_rfl) ?_
      have e1 := Option.some.inj hm
      subst e1
      refine ⟨.inl rfl, .bool true, resH H (fun fr => by kernel_rfl), ?_⟩
      replace A : HH g h6 [] F := (HH.dropF A 0)
      exact ⟨rfl, A⟩
     ·skip
      have e1 := Option.some.inj hm
      subst e1
      refine ⟨.inl rfl, .bool x2, resH H (fun fr => by kernel_rfl), ?_⟩
      replace A : HH g h6 [] F := (HH.dropF A 0)
      exact ⟨rfl, A⟩
     ·exact hF.elim
/-! ### (boulter/tree.Tree).used -/
noncomputable def M_tree_Tree_used_L0 (p0 : S_tree_Tree) (s : (List Bool) × Int) : Option (((List Bool) × Int) ⊕ (((List Bool)))) :=
 match s with
 | (x2, x3) => iteB (decide (x3 ≥ (0 : Int))) (((ixV x2 x3).bind fun x6 => iteB (!x6) (some x2) ((ixV p0.Nodes x3).bind fun x7 => (iteB (x7.Kind == (2 : Int)) (some true) (some (x7.Kind == (3 : Int))) : Option ((Bool))).bind fun x8 => iteB x8 ((ixV x2 x7.A).bind fun x9 => (ixV (x2.set x7.A.toNat true) x7.B).bind fun x10 => some ((x2.set x7.A.toNat true).set x7.B.toNat true)) ((iteB (x7.Kind == (4 : Int)) (some true) (some (x7.Kind == (5 : Int))) : Option ((Bool))).bind fun x11 => iteB x11 ((ixV x2 x7.A).bind fun x12 => some (x2.set x7.A.toNat true)) (some x2))) : Option (((List Bool)))).bind fun x5 => some (.inl (x5, IntKind.i64.wrap (x3 - (1 : Int))))) (some (.inr x2))
noncomputable def M_tree_Tree_used (p0 : S_tree_Tree) : Option ((List Bool)) :=
 need (mkN 1 (p0.Nodes.length : Int)) <| (ixV (List.replicate (p0.Nodes.length : Int).toNat false) p0.Root).bind fun x1 => (loop (M_tree_Tree_used_L0 p0) (((List.replicate (p0.Nodes.length : Int).toNat false).set p0.Root.toNat true), p0.Root)).bind fun x4 => some x4
theorem ok_tree_Tree_used {g : Gd} {h : AHeap} {F : List Ck} {p0 : S_tree_Tree} {q0 : List Bool} {av : List AVal} (hm : M_tree_Tree_used p0 = some q0) (hc : canL (cfg.still 17) av = [.agg [vs e_S_tree_Node p0.Nodes, .int .i64 p0.Root]]) (A : HH g h [] F) : ∃ v h', Runs cfg g h 17 av v h' ∧ ∃ (rq0 : Option Nat), v = rowV rq0 q0.length ∧ HH g h' [.lst rq0 4 (lst eB q0)] F := by
 refine runsQ1 (n := 51) (rs := [.tmp 2]) (by kernel_rfl) hc (by kernel_rfl) ?_
 clear hc
 unfold M_tree_Tree_used at hm
 refine start (n := 51) [(0, .agg [vs e_S_tree_Node p0.Nodes, .int .i64 p0.Root])] (by kernel_rfl) (by kernel_rfl) ?_
 intro fr H
 refine aw_seq (by kernel_rfl) ?_
 refine aw_reg (id := 0) (n := 2) [(0, []), (1, [])] (by kernel_rfl) (by kernel_rfl) ?_
 obtain ⟨h1, e1⟩ : ∃ x, x = h.push (.cells none 2 [vs e_S_tree_Node p0.Nodes, .int .i64 p0.Root]) := ⟨_, rfl⟩
 replace A := (A.push _).to e1
 refine at_step (v := .ptr (some (h.size, 0))) (h1 := h1) [(1, .ptr (some (h.size, 0)))] H (fun fr => by kernel_rfl) (fun fr => .of (s_n' (by kernel_rfl) (congrArg some e1.symm))) ?_
 intro fr t H
 refine at_seg [(1, [])] [(1, .ptr (some (h.size, 0)))] H (noU_all rfl) (fun fr => by kernel_rfl) ?_
 intro fr H
 refine at_nil ?_
 show AW cfg 17 g (right (bodyC cfg.P 17)) fr h1 _
 refine aw_seq (by kernel_rfl) ?_
 refine aw_reg (id := 1) (n := 5) [(0, []), (1, []), (2, []), (3, []), (4, [])] (by kernel_rfl) (by kernel_rfl) ?_
 refine at_seg [(0, [])] [(1, .ptr (some (h.size, 0))), (6, .ptr (some (h.size, 0)))] H (noU_all rfl) (fun fr => by kernel_rfl) ?_
 intro fr H
 refine at_step (v := vs e_S_tree_Node p0.Nodes) (h1 := h1) [(1, .ptr (some (h.size, 0))), (7, vs e_S_tree_Node p0.Nodes)] H (fun fr => by kernel_rfl) (fun fr => .of (s_ld (by kernel_rfl) (A.ld1 0 rfl (o := 0) rfl))) ?_
 intro fr t H
 refine at_seg [(2, [])] [(1, .ptr (some (h.size, 0))), (8, .int .i64 (p0.Nodes.length : Int))] H (noU_all rfl) (fun fr => by kernel_rfl) ?_
 intro fr H
 obtain ⟨hb, hm⟩ := need_some hm
 obtain ⟨h2, e2⟩ : ∃ x, x = h1.push (.cells (some 4) 2 (lst eB (List.replicate (p0.Nodes.length : Int).toNat false))) := ⟨_, rfl⟩
 replace A := (A.pushL _ _).to e2
 refine at_step (v := rowV (some h1.size) (List.replicate (p0.Nodes.length : Int).toNat false).length) (h1 := h2) [(1, .ptr (some (h.size, 0))), (9, rowV (some h1.size) ((List.replicate (p0.Nodes.length : Int).toNat false).length))] H (fun fr => by kernel_rfl) (fun fr => .of (s_mkO (e := eB) encB (x := false) (by kernel_rfl) hb (congrArg some e2.symm))) ?_
 intro fr t H
 refine at_seg [(4, [])] [(1, .ptr (some (h.size, 0))), (3, rowV (some h1.size) ((List.replicate (p0.Nodes.length : Int).toNat false).length))] H (noU_all rfl) (fun fr => by kernel_rfl) ?_
 intro fr H
 refine at_nil ?_
 show AW cfg 17 g (right (right (bodyC cfg.P 17))) fr h2 _
 refine aw_seq (by kernel_rfl) ?_
 refine aw_reg (id := 2) (n := 5) [(0, []), (1, []), (2, []), (3, []), (4, [])] (by kernel_rfl) (by kernel_rfl) ?_
 refine at_seg [(0, []), (1, [])] [(1, .ptr (some (h.size, 0))), (3, rowV (some h1.size) ((List.replicate (p0.Nodes.length : Int).toNat false).length)), (10, rowV (some h1.size) ((List.replicate (p0.Nodes.length : Int).toNat false).length)), (11, .ptr (some (h.size, 1)))] H (noU_all rfl) (fun fr => by kernel_rfl) ?_
 intro fr H
 refine at_step (v := .int .i64 p0.Root) (h1 := h2) [(1, .ptr (some (h.size, 0))), (3, rowV (some h1.size) ((List.replicate (p0.Nodes.length : Int).toNat false).length)), (10, rowV (some h1.size) ((List.replicate (p0.Nodes.length : Int).toNat false).length)), (12, .int .i64 p0.Root)] H (fun fr => by kernel_rfl) (fun fr => .of (s_ld (by kernel_rfl) (A.ld1 1 rfl (o := 1) rfl))) ?_
 intro fr t H
 obtain ⟨x1, hx, hm⟩ := bind_some hm
 obtain ⟨i1, er1, _, hx, hq1⟩ := HH.ixO encB (by decide) A 0 (xs := (List.replicate (p0.Nodes.length : Int).toNat false)) rfl hx
 refine at_step (v := .ptr (some (i1, p0.Root.toNat * 1))) (h1 := h2) [(1, .ptr (some (h.size, 0))), (3, rowV (some h1.size) ((List.replicate (p0.Nodes.length : Int).toNat false).length)), (13, .ptr (some (i1, p0.Root.toNat * 1)))] H (fun fr => by kernel_rfl) (fun fr => .of (s_ixL (s := rowS (some h1.size) ((List.replicate (p0.Nodes.length : Int).toNat false).length)) (by kernel_rfl) hx)) ?_
 intro fr t H
 obtain ⟨h3, hx, A1⟩ := HH.stO encB A 0 rfl er1 hq1 (y := true) (o := 0) (new := [.bool true]) rfl rfl (Nat.le_of_ble_eq_true rfl)
 have hl1 : ((List.replicate (p0.Nodes.length : Int).toNat false).set p0.Root.toNat true).length = (List.replicate (p0.Nodes.length : Int).toNat false).length := List.length_set
 have el : rowV (some h1.size) (List.replicate (p0.Nodes.length : Int).toNat false).length = rowV (some h1.size) ((List.replicate (p0.Nodes.length : Int).toNat false).set p0.Root.toNat true).length := congrArg _ List.length_set.symm
 try rw [el] at H
 try rw [el] at A1
 replace A : HH g h3 [.lst (some h1.size) 4 (lst eB ((List.replicate (p0.Nodes.length : Int).toNat false).set p0.Root.toNat true)), .obj h.size (.cells none 2 [vs e_S_tree_Node p0.Nodes, .int .i64 p0.Root])] F := A1
 refine at_step (v := .tuple []) (h1 := h3) [(1, .ptr (some (h.size, 0))), (3, rowV (some h1.size) (((List.replicate (p0.Nodes.length : Int).toNat false).set p0.Root.toNat true).length))] H (fun fr => by kernel_rfl) (fun fr => .of (s_st (by kernel_rfl) rfl hx)) ?_
 intro fr t H
 refine at_nil ?_
 show AW cfg 17 g (right (right (right (bodyC cfg.P 17)))) fr h3 _
 refine aw_seq (by kernel_rfl) ?_
 refine aw_seq (by kernel_rfl) ?_
 refine aw_reg (id := 3) (n := 3) [(0, []), (1, []), (2, [])] (by kernel_rfl) (by kernel_rfl) ?_
 refine at_seg [(0, [])] [(1, .ptr (some (h.size, 0))), (3, rowV (some h1.size) (((List.replicate (p0.Nodes.length : Int).toNat false).set p0.Root.toNat true).length)), (14, .ptr (some (h.size, 1)))] H (noU_all rfl) (fun fr => by kernel_rfl) ?_
 intro fr H
 refine at_step (v := .int .i64 p0.Root) (h1 := h3) [(1, .ptr (some (h.size, 0))), (3, rowV (some h1.size) (((List.replicate (p0.Nodes.length : Int).toNat false).set p0.Root.toNat true).length)), (15, .int .i64 p0.Root)] H (fun fr => by kernel_rfl) (fun fr => .of (s_ld (by kernel_rfl) (A.ld1 1 rfl (o := 1) rfl))) ?_
 intro fr t H
 refine at_seg [(2, [])] [(1, .ptr (some (h.size, 0))), (3, rowV (some h1.size) (((List.replicate (p0.Nodes.length : Int).toNat false).set p0.Root.toNat true).length)), (4, .int .i64 p0.Root)] H (noU_all rfl) (fun fr => by kernel_rfl) ?_
 intro fr H
 refine at_nil ?_
 show AW cfg 17 g (right (left (right (right (right (bodyC cfg.P 17)))))) fr h3 _
 refine aw_block (id := 0) (by kernel_rfl) ?_
 obtain ⟨o1, ho, hm⟩ := bind_some hm
 refine aw_mono (Q' := fun e fr' h' => (∃ (x4 : List Bool), e = .exit 0 ∧ x4 = o1 ∧ ∃ (hl3 : x4.length = (List.replicate (p0.Nodes.length : Int).toNat false).length), Has fr' 51 [(3, rowV (some h1.size) x4.length)] ∧ HH g h' [.lst (some h1.size) 4 (lst eB x4), .obj h.size (.cells none 2 [vs e_S_tree_Node p0.Nodes, .int .i64 p0.Root])] F) ∨ False) ?_ ?_
 ·refine aw_loop (by kernel_rfl) (fun (s : (List Bool) × Int) fr' h' => ∃ (x2 : List Bool) (x3 : Int), (x2, x3) = s ∧ ∃ (hl2 : x2.length = (List.replicate (p0.Nodes.length : Int).toNat false).length), Has fr' 51 [(1, .ptr (some (h.size, 0))), (3, rowV (some h1.size) x2.length), (4, .int .i64 x3)] ∧ HH g h' [.lst (some h1.size) 4 (lst eB x2), .obj h.size (.cells none 2 [vs e_S_tree_Node p0.Nodes, .int .i64 p0.Root])] F) ho ⟨((List.replicate (p0.Nodes.length : Int).toNat false).set p0.Root.toNat true), p0.Root, rfl, hl1, H.less _ (fun fr => by kernel_rfl), A⟩ ?_
  clear ho hm H A
  intro s q fr h4 hI hm
  obtain ⟨x2, x3, rfl, hl2, H, A⟩ := hI
  unfold M_tree_Tree_used_L0 at hm
  refine aw_seq (by kernel_rfl) ?_
  refine aw_seq (by kernel_rfl) ?_
  refine aw_reg (id := 4) (n := 2) [(0, []), (1, [])] (by kernel_rfl) (by kernel_rfl) ?_
  refine at_seg [(0, []), (1, [])] [(1, .ptr (some (h.size, 0))), (3, rowV (some h1.size) x2.length), (4, .int .i64 x3), (17, .bool (decide (x3 ≥ (0 : Int))))] H (noU_all rfl) (fun fr => by kernel_rfl) ?_
  intro fr H
  refine at_nil ?_
  show AW cfg 17 g (right (left (left (left (right (left (right (right (right (bodyC cfg.P 17)))))))))) fr h4 _
  rcases iteB_some hm with ⟨hb, hm⟩ | ⟨hb, hm⟩
  ·replace H := H.know 17 hb (by kernel_rfl)
   refine aw_true (x := .tmp 17) (by kernel_rfl) H (fun fr => by kernel_rfl) ?_
   refine aw_skip (by kernel_rfl) ?_
   show AW cfg 17 g (right (left (left (right (left (right (right (right (bodyC cfg.P 17))))))))) fr h4 _
   refine aw_seq (by kernel_rfl) ?_
   obtain ⟨o2, ho, hm⟩ := bind_some hm
   refine aw_mono (Q' := fun e fr' h' => (∃ (x5 : List Bool), e = .normal ∧ x5 = o2 ∧ ∃ (hl4 : x5.length = (List.replicate (p0.Nodes.length : Int).toNat false).length), Has fr' 51 [(1, .ptr (some (h.size, 0))), (3, rowV (some h1.size) x5.length), (4, .int .i64 x3)] ∧ HH g h' [.lst (some h1.size) 4 (lst eB x5), .obj h.size (.cells none 2 [vs e_S_tree_Node p0.Nodes, .int .i64 p0.Root])] F) ∨ False) ?_ ?_
   ·replace hm := ho
    clear ho
    refine aw_block (id := 1) (by kernel_rfl) ?_
    refine aw_seq (by kernel_rfl) ?_
    refine aw_seq (by kernel_rfl) ?_
    refine aw_reg (id := 6) (n := 5) [(0, []), (1, []), (2, []), (3, []), (4, [])] (by kernel_rfl) (by kernel_rfl) ?_
    refine at_seg [(0, []), (1, [])] [(1, .ptr (some (h.size, 0))), (3, rowV (some h1.size) x2.length), (4, .int .i64 x3), (20, rowV (some h1.size) x2.length), (21, .int .i64 x3)] H (noU_all rfl) (fun fr => by kernel_rfl) ?_
    intro fr H
    obtain ⟨x6, hx, hm⟩ := bind_some hm
    obtain ⟨i2, er2, _, hx, hq2⟩ := HH.ixO encB (by decide) A 0 (xs := x2) rfl hx
    refine at_step (v := .ptr (some (i2, x3.toNat * 1))) (h1 := h4) [(1, .ptr (some (h.size, 0))), (3, rowV (some h1.size) x2.length), (4, .int .i64 x3), (22, .ptr (some (i2, x3.toNat * 1)))] H (fun fr => by kernel_rfl) (fun fr => .of (s_ixL (s := rowS (some h1.size) x2.length) (by kernel_rfl) hx)) ?_
    intro fr t H
    refine at_step (v := .bool x6) (h1 := h4) [(1, .ptr (some (h.size, 0))), (3, rowV (some h1.size) x2.length), (4, .int .i64 x3), (23, .bool x6)] H (fun fr => by kernel_rfl) (fun fr => .of (s_ld (by kernel_rfl) (row_ld1 encB (HH.row A 0 rfl er2) hq2 (o := 0) rfl))) ?_
    intro fr t H
    refine at_seg [(4, [])] [(1, .ptr (some (h.size, 0))), (3, rowV (some h1.size) x2.length), (4, .int .i64 x3), (24, .bool (!x6))] H (noU_all rfl) (fun fr => by kernel_rfl) ?_
    intro fr H
    refine at_nil ?_
    show AW cfg 17 g (right (left (left (left (right (left (left (right (left (right (right (right (bodyC cfg.P 17))))))))))))) fr h4 _
    rcases iteB_some hm with ⟨hb, hm⟩ | ⟨hb, hm⟩
    ·replace H := H.know 24 hb (by kernel_rfl)
     refine aw_true (x := .tmp 24) (by kernel_rfl) H (fun fr => by kernel_rfl) ?_
     refine aw_exit (i := 1) (by kernel_rfl) ?_
     exact Or.inl ⟨x2, rfl, Option.some.inj hm, hl2, H.less _ (fun fr => by kernel_rfl), A⟩
    ·replace H := H.know 24 hb (by kernel_rfl)
     refine aw_false (x := .tmp 24) (by kernel_rfl) H (fun fr => by kernel_rfl) ?_
     refine aw_skip (by kernel_rfl) ?_
     show AW cfg 17 g (right (left (left (right (left (left (right (left (right (right (right (bodyC cfg.P 17)))))))))))) fr h4 _
     refine aw_seq (by kernel_rfl) ?_
     refine aw_reg (id := 7) (n := 7) [(0, []), (1, []), (2, []), (3, []), (4, []), (5, []), (6, [])] (by kernel_rfl) (by kernel_rfl) ?_
     refine at_seg [(0, [])] [(1, .ptr (some (h.size, 0))), (3, rowV (some h1.size) x2.length), (4, .int .i64 x3), (25, .ptr (some (h.size, 0)))] H (noU_all rfl) (fun fr => by kernel_rfl) ?_
     intro fr H
     refine at_step (v := vs e_S_tree_Node p0.Nodes) (h1 := h4) [(1, .ptr (some (h.size, 0))), (3, rowV (some h1.size) x2.length), (4, .int .i64 x3), (26, vs e_S_tree_Node p0.Nodes)] H (fun fr => by kernel_rfl) (fun fr => .of (s_ld (by kernel_rfl) (A.ld1 1 rfl (o := 0) rfl))) ?_
     intro fr t H
     refine at_seg [(2, [])] [(1, .ptr (some (h.size, 0))), (3, rowV (some h1.size) x2.length), (4, .int .i64 x3), (26, vs e_S_tree_Node p0.Nodes), (27, .int .i64 x3)] H (noU_all rfl) (fun fr => by kernel_rfl) ?_
     intro fr H
     obtain ⟨x7, hx, hm⟩ := bind_some hm
     refine at_step (v := .vptr (e_S_tree_Node x7)) (h1 := h4) [(1, .ptr (some (h.size, 0))), (3, rowV (some h1.size) x2.length), (4, .int .i64 x3), (28, .vptr (e_S_tree_Node x7))] H (fun fr => by kernel_rfl) (fun fr => .of (s_ixV (e := e_S_tree_Node) (x := x7) enc_S_tree_Node (by decide) (by kernel_rfl) hx)) ?_
     intro fr t H
     refine at_step (v := .agg (e_S_tree_Node x7)) (h1 := h4) [(1, .ptr (some (h.size, 0))), (3, rowV (some h1.size) x2.length), (4, .int .i64 x3), (29, .agg (e_S_tree_Node x7))] H (fun fr => by kernel_rfl) (fun fr => .of (s_lv (by kernel_rfl))) ?_
     intro fr t H
     obtain ⟨h5, e3⟩ : ∃ x, x = h4.push (.cells none 2 [.int .i64 (0 : Int), .int .i64 (0 : Int), .int .i64 (0 : Int), .int .i64 (0 : Int), .int .i64 (0 : Int), .int .i64 (0 : Int), .int .u64 (0 : Int), .int .u64 (0 : Int), .int .u64 (0 : Int), .int .u64 (0 : Int)]) := ⟨_, rfl⟩
     replace A := (A.push _).to e3
     refine at_step (v := .ptr (some (h4.size, 0))) (h1 := h5) [(1, .ptr (some (h.size, 0))), (3, rowV (some h1.size) x2.length), (4, .int .i64 x3), (5, .ptr (some (h4.size, 0))), (29, .agg (e_S_tree_Node x7))] H (fun fr => by kernel_rfl) (fun fr => .of (s_n' (by kernel_rfl) (congrArg some e3.symm))) ?_
     intro fr t H
     obtain ⟨h6, hx, A1⟩ := A.st 0 rfl (o := 0) (new := [.int .i64 x7.Kind, .int .i64 x7.A, .int .i64 x7.B, .int .i64 x7.Min, .int .i64 x7.Max, .int .i64 x7.Group, .int .u64 x7.Set.w0, .int .u64 x7.Set.w1, .int .u64 x7.Set.w2, .int .u64 x7.Set.w3]) (ds := [.int .i64 x7.Kind, .int .i64 x7.A, .int .i64 x7.B, .int .i64 x7.Min, .int .i64 x7.Max, .int .i64 x7.Group, .int .u64 x7.Set.w0, .int .u64 x7.Set.w1, .int .u64 x7.Set.w2, .int .u64 x7.Set.w3]) (Nat.le_of_ble_eq_true rfl) rfl rfl
     replace A : HH g h6 [.obj h4.size (.cells none 2 (e_S_tree_Node x7)), .lst (some h1.size) 4 (lst eB x2), .obj h.size (.cells none 2 [vs e_S_tree_Node p0.Nodes, .int .i64 p0.Root])] F := A1
     refine at_step (v := .tuple []) (h1 := h6) [(1, .ptr (some (h.size, 0))), (3, rowV (some h1.size) x2.length), (4, .int .i64 x3), (5, .ptr (some (h4.size, 0)))] H (fun fr => by kernel_rfl) (fun fr => .of (s_stG (by kernel_rfl) (stG_st hx rfl))) ?_
     intro fr t H
     refine at_nil ?_
     show AW cfg 17 g (right (right (left (left (right (left (left (right (left (right (right (right (bodyC cfg.P 17))))))))))))) fr h6 _
     refine aw_seq (by kernel_rfl) ?_
     refine aw_reg (id := 8) (n := 2) [(0, []), (1, [])] (by kernel_rfl) (by kernel_rfl) ?_
     refine at_seg [(0, [])] [(1, .ptr (some (h.size, 0))), (3, rowV (some h1.size) x2.length), (4, .int .i64 x3), (5, .ptr (some (h4.size, 0))), (30, .ptr (some (h4.size, 0)))] H (noU_all rfl) (fun fr => by kernel_rfl) ?_
     intro fr H
     refine at_step (v := .int .i64 x7.Kind) (h1 := h6) [(1, .ptr (some (h.size, 0))), (3, rowV (some h1.size) x2.length), (4, .int .i64 x3), (5, .ptr (some (h4.size, 0))), (31, .int .i64 x7.Kind)] H (fun fr => by kernel_rfl) (fun fr => .of (s_ld (by kernel_rfl) (A.ld1 0 rfl (o := 0) rfl))) ?_
     intro fr t H
     refine at_nil ?_
     show AW cfg 17 g (right (right (right (left (left (right (left (left (right (left (right (right (right (bodyC cfg.P 17)))))))))))))) fr h6 _
     refine aw_block (id := 2) (by kernel_rfl) ?_
     refine aw_seq (by kernel_rfl) ?_
     obtain ⟨o3, ho, hm⟩ := bind_some hm
     refine aw_mono (Q' := fun e fr' h' => (∃ (x8 : Bool), e = .normal ∧ x8 = o3 ∧ Has fr' 51 [(1, .ptr (some (h.size, 0))), (3, rowV (some h1.size) x2.length), (4, .int .i64 x3), (5, .ptr (some (h4.size, 0))), (31, .int .i64 x7.Kind), (32, .bool x8)] ∧ HH g h' [.obj h4.size (.cells none 2 (e_S_tree_Node x7)), .lst (some h1.size) 4 (lst eB x2), .obj h.size (.cells none 2 [vs e_S_tree_Node p0.Nodes, .int .i64 p0.Root])] F) ∨ False) ?_ ?_
     ·replace hm := ho
      clear ho
      refine aw_seq (by kernel_rfl) ?_
      refine aw_reg (id := 9) (n := 2) [(0, []), (1, [])] (by kernel_rfl) (by kernel_rfl) ?_
      refine at_seg [(0, []), (1, [])] [(1, .ptr (some (h.size, 0))), (3, rowV (some h1.size) x2.length), (4, .int .i64 x3), (5, .ptr (some (h4.size, 0))), (31, .int .i64 x7.Kind), (32, .bool (x7.Kind == (2 : Int)))] H (noU_all rfl) (fun fr => by kernel_rfl) ?_
      intro fr H
      refine at_nil ?_
      show AW cfg 17 g (right (left (left (right (right (right (left (left (right (left (left (right (left (right (right (right (bodyC cfg.P 17))))))))))))))))) fr h6 _
      rcases iteB_some hm with ⟨hb, hm⟩ | ⟨hb, hm⟩
      ·replace H := H.know 32 hb (by kernel_rfl)
       refine aw_true (x := .tmp 32) (by kernel_rfl) H (fun fr => by kernel_rfl) ?_
       refine aw_skip (by kernel_rfl) ?_
       exact Or.inl ⟨true, rfl, Option.some.inj hm, H.less _ (fun fr => by kernel_rfl), A⟩
      ·replace H := H.know 32 hb (by kernel_rfl)
       refine aw_false (x := .tmp 32) (by kernel_rfl) H (fun fr => by kernel_rfl) ?_
       refine aw_reg (id := 10) (n := 2) [(0, []), (1, [])] (by kernel_rfl) (by kernel_rfl) ?_
       refine at_seg [(0, []), (1, [])] [(1, .ptr (some (h.size, 0))), (3, rowV (some h1.size) x2.length), (4, .int .i64 x3), (5, .ptr (some (h4.size, 0))), (31, .int .i64 x7.Kind), (32, .bool (x7.Kind == (3 : Int)))] H (noU_all rfl) (fun fr => by kernel_rfl) ?_
       intro fr H
       refine at_nil ?_
       exact Or.inl ⟨x7.Kind == (3 : Int), rfl, Option.some.inj hm, H.less _ (fun fr => by kernel_rfl), A⟩
     ·clear ho
      clear A
      intro e fr h7 hQ
      rcases hQ with ⟨x8, rfl, rfl, H, A⟩ | hF
      ·skip
       show AW cfg 17 g (right (left (right (right (right (left (left (right (left (left (right (left (right (right (right (bodyC cfg.P 17)))))))))))))))) fr h7 _
       rcases iteB_some hm with ⟨hb, hm⟩ | ⟨hb, hm⟩
       ·replace H := H.know 32 hb (by kernel_rfl)
        refine aw_true (x := .tmp 32) (by kernel_rfl) H (fun fr => by kernel_rfl) ?_
        refine aw_draw (id := 11) (n := 10) (by kernel_rfl) [(0, []), (1, []), (2, []), (3, []), (4, []), (5, []), (6, []), (7, [5]), (8, []), (9, [])] (by kernel_rfl) ?_
        refine at_seg [(0, []), (1, [])] [(1, .ptr (some (h.size, 0))), (3, rowV (some h1.size) x2.length), (4, .int .i64 x3), (5, .ptr (some (h4.size, 0))), (35, rowV (some h1.size) x2.length), (36, .ptr (some (h4.size, 1)))] H (noU_all rfl) (fun fr => by kernel_rfl) ?_
        intro fr H
        refine at_stepT (v := .int .i64 x7.A) (h1 := h7) (tch' := [(2, h4.size)]) (g.prot) [(1, .ptr (some (h.size, 0))), (3, rowV (some h1.size) x2.length), (4, .int .i64 x3), (5, .ptr (some (h4.size, 0))), (35, rowV (some h1.size) x2.length), (37, .int .i64 x7.A)] H (fun fr => by kernel_rfl) (by kernel_rfl) (fun fr => by kernel_rfl) (fun fr => .of (s_ld (by kernel_rfl) (A.ld1 0 rfl (o := 1) rfl))) (fun fr => by kernel_rfl) ?_
        intro fr H
        refine at_seg [(3, []), (4, [])] [(1, .ptr (some (h.size, 0))), (3, rowV (some h1.size) x2.length), (4, .int .i64 x3), (35, rowV (some h1.size) x2.length), (37, .int .i64 x7.A), (38, rowV (some h1.size) x2.length), (39, .ptr (some (h4.size, 2)))] H (noU_all rfl) (fun fr => by kernel_rfl) ?_
        intro fr H
        refine at_stepT (v := .int .i64 x7.B) (h1 := h7) (tch' := [(5, h4.size), (2, h4.size)]) (g.prot) [(1, .ptr (some (h.size, 0))), (3, rowV (some h1.size) x2.length), (4, .int .i64 x3), (35, rowV (some h1.size) x2.length), (37, .int .i64 x7.A), (38, rowV (some h1.size) x2.length), (40, .int .i64 x7.B)] H (fun fr => by kernel_rfl) (by kernel_rfl) (fun fr => by kernel_rfl) (fun fr => .of (s_ld (by kernel_rfl) (A.ld1 0 rfl (o := 2) rfl))) (fun fr => by kernel_rfl) ?_
        intro fr H
        obtain ⟨x9, hx, hm⟩ := bind_some hm
        obtain ⟨i3, er3, _, hx, hq3⟩ := HH.ixO encB (by decide) A 1 (xs := x2) rfl hx
        refine at_stepT (v := .ptr (some (i3, x7.A.toNat * 1))) (h1 := h7) (tch' := [(5, h4.size), (2, h4.size)]) (g.prot) [(1, .ptr (some (h.size, 0))), (3, rowV (some h1.size) x2.length), (4, .int .i64 x3), (38, rowV (some h1.size) x2.length), (40, .int .i64 x7.B), (41, .ptr (some (i3, x7.A.toNat * 1)))] H (fun fr => by kernel_rfl) (by kernel_rfl) (fun fr => by kernel_rfl) (fun fr => .of (s_ixL (s := rowS (some h1.size) x2.length) (by kernel_rfl) hx)) (fun fr => by kernel_rfl) ?_
        intro fr H
        replace A : HH g h7 [.lst (some h1.size) 4 (lst eB x2), .obj h4.size (.cells none 2 (e_S_tree_Node x7)), .obj h.size (.cells none 2 [vs e_S_tree_Node p0.Nodes, .int .i64 p0.Root])] F := (A.front 1 rfl)
        have A1 := A.prot2 1 (pr := [h4.size]) (.cons 0 rfl (by simp [Ck.ids]) .nil)
        obtain ⟨h8, hx, A1⟩ := HH.stO encB A1 0 rfl er3 hq3 (y := true) (o := 0) (new := [.bool true]) rfl rfl (Nat.le_of_ble_eq_true rfl)
        have hl5 : (x2.set x7.A.toNat true).length = (List.replicate (p0.Nodes.length : Int).toNat false).length := List.length_set.trans hl2
        have el : rowV (some h1.size) x2.length = rowV (some h1.size) (x2.set x7.A.toNat true).length := congrArg _ List.length_set.symm
        try rw [el] at H
        try rw [el] at A1
        replace A : HH g h8 [.lst (some h1.size) 4 (lst eB (x2.set x7.A.toNat true)), .obj h4.size (.cells none 2 (e_S_tree_Node x7)), .obj h.size (.cells none 2 [vs e_S_tree_Node p0.Nodes, .int .i64 p0.Root])] F := A.glueP (n := 1) A1
        refine at_stepT (v := .tuple []) (h1 := h8) (tch' := [(5, h4.size), (2, h4.size)]) (h4.size :: g.prot) [(1, .ptr (some (h.size, 0))), (3, rowV (some h1.size) ((x2.set x7.A.toNat true).length)), (4, .int .i64 x3), (38, rowV (some h1.size) ((x2.set x7.A.toNat true).length)), (40, .int .i64 x7.B)] H (fun fr => by kernel_rfl) (by kernel_rfl) (fun fr => by kernel_rfl) (fun fr => .of (s_st (by kernel_rfl) rfl hx)) (fun fr => by kernel_rfl) ?_
        intro fr H
        obtain ⟨x10, hx, hm⟩ := bind_some hm
        obtain ⟨i4, er4, _, hx, hq4⟩ := HH.ixO encB (by decide) A 0 (xs := (x2.set x7.A.toNat true)) rfl hx
        refine at_stepT (v := .ptr (some (i4, x7.B.toNat * 1))) (h1 := h8) (tch' := [(5, h4.size), (2, h4.size)]) (g.prot) [(1, .ptr (some (h.size, 0))), (3, rowV (some h1.size) ((x2.set x7.A.toNat true).length)), (4, .int .i64 x3), (42, .ptr (some (i4, x7.B.toNat * 1)))] H (fun fr => by kernel_rfl) (by kernel_rfl) (fun fr => by kernel_rfl) (fun fr => .of (s_ixL (s := rowS (some h1.size) ((x2.set x7.A.toNat true).length)) (by kernel_rfl) hx)) (fun fr => by kernel_rfl) ?_
        intro fr H
        obtain ⟨h9, hx, A1⟩ := HH.stO encB A 0 rfl er4 hq4 (y := true) (o := 0) (new := [.bool true]) rfl rfl (Nat.le_of_ble_eq_true rfl)
        have hl6 : ((x2.set x7.A.toNat true).set x7.B.toNat true).length = (List.replicate (p0.Nodes.length : Int).toNat false).length := List.length_set.trans hl5
        have el : rowV (some h1.size) (x2.set x7.A.toNat true).length = rowV (some h1.size) ((x2.set x7.A.toNat true).set x7.B.toNat true).length := congrArg _ List.length_set.symm
        try rw [el] at H
        try rw [el] at A1
        replace A : HH g h9 [.lst (some h1.size) 4 (lst eB ((x2.set x7.A.toNat true).set x7.B.toNat true)), .obj h4.size (.cells none 2 (e_S_tree_Node x7)), .obj h.size (.cells none 2 [vs e_S_tree_Node p0.Nodes, .int .i64 p0.Root])] F := A1
        refine at_stepT (v := .tuple []) (h1 := h9) (tch' := [(5, h4.size), (2, h4.size)]) (g.prot) [(1, .ptr (some (h.size, 0))), (3, rowV (some h1.size) (((x2.set x7.A.toNat true).set x7.B.toNat true).length)), (4, .int .i64 x3)] H (fun fr => by kernel_rfl) (by kernel_rfl) (fun fr => by kernel_rfl) (fun fr => .of (s_st (by kernel_rfl) rfl hx)) (fun fr => by kernel_rfl) ?_
        intro fr H
        refine at_nil ?_
        replace A : HH g h9 [.lst (some h1.size) 4 (lst eB ((x2.set x7.A.toNat true).set x7.B.toNat true)), .obj h.size (.cells none 2 [vs e_S_tree_Node p0.Nodes, .int .i64 p0.Root])] F := (HH.dropF ((A.front 2 rfl).front 1 rfl) 2)
        exact Or.inl ⟨((x2.set x7.A.toNat true).set x7.B.toNat true), rfl, Option.some.inj hm, hl6, H.less _ (fun fr => by kernel_rfl), A⟩
       ·replace H := H.know 32 hb (by kernel_rfl)
        refine aw_false (x := .tmp 32) (by kernel_rfl) H (fun fr => by kernel_rfl) ?_
        refine aw_seq (by kernel_rfl) ?_
        obtain ⟨o4, ho, hm⟩ := bind_some hm
        refine aw_mono (Q' := fun e fr' h' => (∃ (x11 : Bool), e = .normal ∧ x11 = o4 ∧ Has fr' 51 [(1, .ptr (some (h.size, 0))), (3, rowV (some h1.size) x2.length), (4, .int .i64 x3), (5, .ptr (some (h4.size, 0))), (43, .bool x11)] ∧ HH g h' [.obj h4.size (.cells none 2 (e_S_tree_Node x7)), .lst (some h1.size) 4 (lst eB x2), .obj h.size (.cells none 2 [vs e_S_tree_Node p0.Nodes, .int .i64 p0.Root])] F) ∨ False) ?_ ?_
        ·replace hm := ho
         clear ho
         refine aw_seq (by kernel_rfl) ?_
         refine aw_reg (id := 12) (n := 2) [(0, []), (1, [])] (by kernel_rfl) (by kernel_rfl) ?_
         refine at_seg [(0, []), (1, [])] [(1, .ptr (some (h.size, 0))), (3, rowV (some h1.size) x2.length), (4, .int .i64 x3), (5, .ptr (some (h4.size, 0))), (31, .int .i64 x7.Kind), (43, .bool (x7.Kind == (4 : Int)))] H (noU_all rfl) (fun fr => by kernel_rfl) ?_
         intro fr H
         refine at_nil ?_
         show AW cfg 17 g (right (left (right (right (left (right (right (right (left (left (right (left (left (right (left (right (right (right (bodyC cfg.P 17))))))))))))))))))) fr h7 _
         rcases iteB_some hm with ⟨hb, hm⟩ | ⟨hb, hm⟩
         ·replace H := H.know 43 hb (by kernel_rfl)
          refine aw_true (x := .tmp 43) (by kernel_rfl) H (fun fr => by kernel_rfl) ?_
          refine aw_skip (by kernel_rfl) ?_
          exact Or.inl ⟨true, rfl, Option.some.inj hm, H.less _ (fun fr => by kernel_rfl), A⟩
         ·replace H := H.know 43 hb (by kernel_rfl)
          refine aw_false (x := .tmp 43) (by kernel_rfl) H (fun fr => by kernel_rfl) ?_
          refine aw_reg (id := 13) (n := 2) [(0, []), (1, [])] (by kernel_rfl) (by kernel_rfl) ?_
          refine at_seg [(0, []), (1, [])] [(1, .ptr (some (h.size, 0))), (3, rowV (some h1.size) x2.length), (4, .int .i64 x3), (5, .ptr (some (h4.size, 0))), (43, .bool (x7.Kind == (5 : Int)))] H (noU_all rfl) (fun fr => by kernel_rfl) ?_
          intro fr H
          refine at_nil ?_
          exact Or.inl ⟨x7.Kind == (5 : Int), rfl, Option.some.inj hm, H.less _ (fun fr => by kernel_rfl), A⟩
        ·clear ho
         clear A
         intro e fr h10 hQ
         rcases hQ with ⟨x11, rfl, rfl, H, A⟩ | hF
         ·skip
          show AW cfg 17 g (right (right (right (left (right (right (right (left (left (right (left (left (right (left (right (right (right (bodyC cfg.P 17)))))))))))))))))) fr h10 _
          rcases iteB_some hm with ⟨hb, hm⟩ | ⟨hb, hm⟩
          ·replace H := H.know 43 hb (by kernel_rfl)
           refine aw_true (x := .tmp 43) (by kernel_rfl) H (fun fr => by kernel_rfl) ?_
           refine aw_reg (id := 14) (n := 5) [(0, []), (1, []), (2, []), (3, []), (4, [])] (by kernel_rfl) (by kernel_rfl) ?_
           refine at_seg [(0, []), (1, [])] [(1, .ptr (some (h.size, 0))), (3, rowV (some h1.size) x2.length), (4, .int .i64 x3), (46, rowV (some h1.size) x2.length), (47, .ptr (some (h4.size, 1)))] H (noU_all rfl) (fun fr => by kernel_rfl) ?_
           intro fr H
           refine at_step (v := .int .i64 x7.A) (h1 := h10) [(1, .ptr (some (h.size, 0))), (3, rowV (some h1.size) x2.length), (4, .int .i64 x3), (46, rowV (some h1.size) x2.length), (48, .int .i64 x7.A)] H (fun fr => by kernel_rfl) (fun fr => .of (s_ld (by kernel_rfl) (A.ld1 0 rfl (o := 1) rfl))) ?_
           intro fr t H
           obtain ⟨x12, hx, hm⟩ := bind_some hm
           obtain ⟨i5, er5, _, hx, hq5⟩ := HH.ixO encB (by decide) A 1 (xs := x2) rfl hx
           refine at_step (v := .ptr (some (i5, x7.A.toNat * 1))) (h1 := h10) [(1, .ptr (some (h.size, 0))), (3, rowV (some h1.size) x2.length), (4, .int .i64 x3), (49, .ptr (some (i5, x7.A.toNat * 1)))] H (fun fr => by kernel_rfl) (fun fr => .of (s_ixL (s := rowS (some h1.size) x2.length) (by kernel_rfl) hx)) ?_
           intro fr t H
           obtain ⟨h11, hx, A1⟩ := HH.stO encB A 1 rfl er5 hq5 (y := true) (o := 0) (new := [.bool true]) rfl rfl (Nat.le_of_ble_eq_true rfl)
           have hl7 : (x2.set x7.A.toNat true).length = (List.replicate (p0.Nodes.length : Int).toNat false).length := List.length_set.trans hl2
           have el : rowV (some h1.size) x2.length = rowV (some h1.size) (x2.set x7.A.toNat true).length := congrArg _ List.length_set.symm
           try rw [el] at H
           try rw [el] at A1
           replace A : HH g h11 [.obj h4.size (.cells none 2 (e_S_tree_Node x7)), .lst (some h1.size) 4 (lst eB (x2.set x7.A.toNat true)), .obj h.size (.cells none 2 [vs e_S_tree_Node p0.Nodes, .int .i64 p0.Root])] F := A1
           refine at_step (v := .tuple []) (h1 := h11) [(1, .ptr (some (h.size, 0))), (3, rowV (some h1.size) ((x2.set x7.A.toNat true).length)), (4, .int .i64 x3)] H (fun fr => by kernel_rfl) (fun fr => .of (s_st (by kernel_rfl) rfl hx)) ?_
           intro fr t H
           refine at_nil ?_
           replace A : HH g h11 [.lst (some h1.size) 4 (lst eB (x2.set x7.A.toNat true)), .obj h.size (.cells none 2 [vs e_S_tree_Node p0.Nodes, .int .i64 p0.Root])] F := (HH.dropF ((A.front 2 rfl).front 2 rfl) 2)
           exact Or.inl ⟨(x2.set x7.A.toNat true), rfl, Option.some.inj hm, hl7, H.less _ (fun fr => by kernel_rfl), A⟩
          ·replace H := H.know 43 hb (by kernel_rfl)
           refine aw_false (x := .tmp 43) (by kernel_rfl) H (fun fr => by kernel_rfl) ?_
           refine aw_skip (by kernel_rfl) ?_
           replace A : HH g h10 [.lst (some h1.size) 4 (lst eB x2), .obj h.size (.cells none 2 [vs e_S_tree_Node p0.Nodes, .int .i64 p0.Root])] F := (HH.dropF ((A.front 2 rfl).front 2 rfl) 2)
           exact Or.inl ⟨x2, rfl, Option.some.inj hm, hl2, H.less _ (fun fr => by kernel_rfl), A⟩
         ·exact hF.elim
      ·exact hF.elim
   ·clear ho
    clear A
    intro e fr h12 hQ
    rcases hQ with ⟨x5, rfl, rfl, hl4, H, A⟩ | hF
    ·skip
     show AW cfg 17 g (right (right (left (left (right (left (right (right (right (bodyC cfg.P 17)))))))))) fr h12 _
     refine aw_reg (id := 5) (n := 3) [(0, []), (1, []), (2, [])] (by kernel_rfl) (by kernel_rfl) ?_
     refine at_seg [(0, []), (1, []), (2, [])] [(1, .ptr (some (h.size, 0))), (3, rowV (some h1.size) x5.length), (4, .int .i64 (IntKind.i64.wrap (x3 - (1 : Int))))] H (noU_all rfl) (fun fr => by kernel_rfl) ?_
     intro fr H
     refine at_nil ?_
     exact Exists.intro (x5, IntKind.i64.wrap (x3 - (1 : Int))) (And.intro (Option.some.inj hm).symm ⟨x5, IntKind.i64.wrap (x3 - (1 : Int)), rfl, hl4, H.less _ (fun fr => by kernel_rfl), A⟩)
    ·exact hF.elim
  ·replace H := H.know 17 hb (by kernel_rfl)
   refine aw_false (x := .tmp 17) (by kernel_rfl) H (fun fr => by kernel_rfl) ?_
   refine aw_exit (i := 0) (by kernel_rfl) ?_
   exact Exists.intro _ (And.intro (Option.some.inj hm).symm (fun e => Or.inl ⟨x2, rfl, e, hl2, H.less _ (fun fr => by kernel_rfl), A⟩))
 ·clear ho
  clear A
  intro e fr h13 hQ
  rcases hQ with ⟨x4, rfl, rfl, hl3, H, A⟩ | hF
  ·skip
   show AW cfg 17 g (right (right (right (right (bodyC cfg.P 17))))) fr h13 _
   refine aw_seq (by kernel_rfl) ?_
   refine aw_reg (id := 15) (n := 2) [(0, []), (1, [])] (by kernel_rfl) (by kernel_rfl) ?_
   refine at_seg [(0, []), (1, [])] [(2, rowV (some h1.size) x4.length)] H (noU_all rfl) (fun fr => by kernel_rfl) ?_
   intro fr H
   refine at_nil ?_
   show AW cfg 17 g (right (right (right (right (right (bodyC cfg.P 17)))))) fr h13 _
   refine aw_ret (by kernel_rfl) ?_
   have e1 := Option.some.inj hm
   subst e1
   refine ⟨.inl rfl, rowV (some h1.size) x4.length, resH H (fun fr => by kernel_rfl), ?_⟩
   replace A : HH g h13 [.lst (some h1.size) 4 (lst eB x4)] F := (HH.dropF (A.front 0 rfl) 1)
   exact ⟨some h1.size, rfl, A⟩
  ·exact hF.elim
/-! ### (boulter/tree.Tree).Groups -/
noncomputable def M_tree_Tree_Groups_L0 (p0 : S_tree_Tree) (x2 : List Bool) (s : Int × Int) : Option ((Int × Int) ⊕ ((Int))) :=
 match s with
 | (x3, x4) => iteB (decide (x4 < (x2.length : Int))) (((ixV x2 x4).bind fun x7 => iteB x7 ((ixV p0.Nodes x4).bind fun x8 => some (mx x3 x8.Group)) (some x3) : Option ((Int))).bind fun x6 => some (.inl (x6, IntKind.i64.wrap (x4 + (1 : Int))))) (some (.inr x3))
noncomputable def M_tree_Tree_Groups (p0 : S_tree_Tree) : Option (Int) :=
 (M_tree_Tree_Right p0).bind fun x1 => iteB (!x1) (some (0 : Int)) ((M_tree_Tree_used p0).bind fun x2 => (loop (M_tree_Tree_Groups_L0 p0 x2) ((0 : Int), (0 : Int))).bind fun x5 => some x5)
theorem ok_tree_Tree_Groups {g : Gd} {h : AHeap} {F : List Ck} {p0 : S_tree_Tree} {q0 : Int} {av : List AVal} (hm : M_tree_Tree_Groups p0 = some q0) (hc : canL (cfg.still 9) av = [.agg [vs e_S_tree_Node p0.Nodes, .int .i64 p0.Root]]) (A : HH g h [] F) : ∃ v h', Runs cfg g h 9 av v h' ∧ v = .int .i64 q0 ∧ HH g h' [] F := by
 refine runsQ1 (n := 28) (rs := [.tmp 2]) (by kernel_rfl) hc (by kernel_rfl) ?_
 clear hc
 unfold M_tree_Tree_Groups at hm
 refine start (n := 28) [(0, .agg [vs e_S_tree_Node p0.Nodes, .int .i64 p0.Root])] (by kernel_rfl) (by kernel_rfl) ?_
 intro fr H
 refine aw_seq (by kernel_rfl) ?_
 refine aw_reg (id := 0) (n := 2) [(0, []), (1, [])] (by kernel_rfl) (by kernel_rfl) ?_
 obtain ⟨h1, e1⟩ : ∃ x, x = h.push (.cells none 2 [vs e_S_tree_Node p0.Nodes, .int .i64 p0.Root]) := ⟨_, rfl⟩
 replace A := (A.push _).to e1
 refine at_step (v := .ptr (some (h.size, 0))) (h1 := h1) [(1, .ptr (some (h.size, 0)))] H (fun fr => by kernel_rfl) (fun fr => .of (s_n' (by kernel_rfl) (congrArg some e1.symm))) ?_
 intro fr t H
 refine at_seg [(1, [])] [(1, .ptr (some (h.size, 0)))] H (noU_all rfl) (fun fr => by kernel_rfl) ?_
 intro fr H
 refine at_nil ?_
 show AW cfg 9 g (right (bodyC cfg.P 9)) fr h1 _
 refine aw_seq (by kernel_rfl) ?_
 refine aw_seq (by kernel_rfl) ?_
 refine aw_reg (id := 1) (n := 3) [(0, []), (1, []), (2, [])] (by kernel_rfl) (by kernel_rfl) ?_
 refine at_step (v := .agg [vs e_S_tree_Node p0.Nodes, .int .i64 p0.Root]) (h1 := h1) [(1, .ptr (some (h.size, 0))), (6, .agg [vs e_S_tree_Node p0.Nodes, .int .i64 p0.Root])] H (fun fr => by kernel_rfl) (fun fr => .of (s_ldA (by kernel_rfl) (A.ldA 0 rfl (o := 0) (n := 2) ⟨Nat.le_of_ble_eq_true rfl, rfl⟩))) ?_
 intro fr t H
 have A1 := A.cut 0
 obtain ⟨x1, hx, hm⟩ := bind_some hm
 obtain ⟨v1, h2, hr, rfl, A1⟩ := ok_tree_Tree_Right (av := [.agg [vs e_S_tree_Node p0.Nodes, .int .i64 p0.Root]]) hx (by kernel_rfl) A1
 replace A : HH g h2 [.obj h.size (.cells none 2 [vs e_S_tree_Node p0.Nodes, .int .i64 p0.Root])] F := A.glue0 (n := 0) A1
 refine at_step (v := .bool x1) (h1 := h2) [(1, .ptr (some (h.size, 0))), (7, .bool x1)] H (fun fr => by kernel_rfl) (fun fr => Steps.call (by kernel_rfl) hr) ?_
 intro fr t H
 refine at_seg [(2, [])] [(1, .ptr (some (h.size, 0))), (8, .bool (!x1))] H (noU_all rfl) (fun fr => by kernel_rfl) ?_
 intro fr H
 refine at_nil ?_
 show AW cfg 9 g (right (left (right (bodyC cfg.P 9)))) fr h2 _
 rcases iteB_some hm with ⟨hb, hm⟩ | ⟨hb, hm⟩
 ·replace H := H.know 8 hb (by kernel_rfl)
  refine aw_true (x := .tmp 8) (by kernel_rfl) H (fun fr => by kernel_rfl) ?_
  refine aw_seq (by kernel_rfl) ?_
  refine aw_reg (id := 2) (n := 1) [(0, [])] (by kernel_rfl) (by kernel_rfl) ?_
  refine at_seg [(0, [])] [(2, .int .i64 (0 : Int))] H (noU_all rfl) (fun fr => by kernel_rfl) ?_
  intro fr H
  refine at_nil ?_
  show AW cfg 9 g (right (left (right (left (right (bodyC cfg.P 9)))))) fr h2 _
  refine aw_ret (by kernel_rfl) ?_
  have e1 := Option.some.inj hm
  subst e1
  refine ⟨.inl rfl, .int .i64 (0 : Int), resH H (fun fr => by kernel_rfl), ?_⟩
  replace A : HH g h2 [] F := (HH.dropF A 0)
  exact ⟨rfl, A⟩
 ·replace H := H.know 8 hb (by kernel_rfl)
  refine aw_false (x := .tmp 8) (by kernel_rfl) H (fun fr => by kernel_rfl) ?_
  refine aw_skip (by kernel_rfl) ?_
  show AW cfg 9 g (right (right (bodyC cfg.P 9))) fr h2 _
  refine aw_seq (by kernel_rfl) ?_
  refine aw_reg (id := 3) (n := 1) [(0, [])] (by kernel_rfl) (by kernel_rfl) ?_
  refine at_seg [(0, [])] [(1, .ptr (some (h.size, 0))), (3, .int .i64 (0 : Int))] H (noU_all rfl) (fun fr => by kernel_rfl) ?_
  intro fr H
  refine at_nil ?_
  show AW cfg 9 g (right (right (right (bodyC cfg.P 9)))) fr h2 _
  refine aw_seq (by kernel_rfl) ?_
  refine aw_seq (by kernel_rfl) ?_
  refine aw_reg (id := 4) (n := 4) [(0, []), (1, []), (2, []), (3, [])] (by kernel_rfl) (by kernel_rfl) ?_
  refine at_step (v := .agg [vs e_S_tree_Node p0.Nodes, .int .i64 p0.Root]) (h1 := h2) [(1, .ptr (some (h.size, 0))), (3, .int .i64 (0 : Int)), (9, .agg [vs e_S_tree_Node p0.Nodes, .int .i64 p0.Root])] H (fun fr => by kernel_rfl) (fun fr => .of (s_ldA (by kernel_rfl) (A.ldA 0 rfl (o := 0) (n := 2) ⟨Nat.le_of_ble_eq_true rfl, rfl⟩))) ?_
  intro fr t H
  have A1 := A.cut 0
  obtain ⟨x2, hx, hm⟩ := bind_some hm
  obtain ⟨v1, h3, hr, rqw2, rfl, A1⟩ := ok_tree_Tree_used (av := [.agg [vs e_S_tree_Node p0.Nodes, .int .i64 p0.Root]]) hx (by kernel_rfl) A1
  replace A : HH g h3 [.lst rqw2 4 (lst eB x2), .obj h.size (.cells none 2 [vs e_S_tree_Node p0.Nodes, .int .i64 p0.Root])] F := A.glue0 (n := 0) A1
  refine at_step (v := rowV rqw2 x2.length) (h1 := h3) [(1, .ptr (some (h.size, 0))), (3, .int .i64 (0 : Int)), (10, rowV rqw2 x2.length)] H (fun fr => by kernel_rfl) (fun fr => Steps.call (by kernel_rfl) hr) ?_
  intro fr t H
  refine at_seg [(2, []), (3, [])] [(1, .ptr (some (h.size, 0))), (3, .int .i64 (0 : Int)), (10, rowV rqw2 x2.length), (11, .int .i64 (x2.length : Int)), (12, .int .i64 (0 : Int))] H (noU_all rfl) (fun fr => by kernel_rfl) ?_
  intro fr H
  refine at_nil ?_
  show AW cfg 9 g (right (left (right (right (right (bodyC cfg.P 9)))))) fr h3 _
  refine aw_block (id := 0) (by kernel_rfl) ?_
  obtain ⟨o1, ho, hm⟩ := bind_some hm
  refine aw_mono (Q' := fun e fr' h' => (∃ (x5 : Int), e = .exit 0 ∧ x5 = o1 ∧ Has fr' 28 [(3, .int .i64 x5)] ∧ HH g h' [.obj h.size (.cells none 2 [vs e_S_tree_Node p0.Nodes, .int .i64 p0.Root])] F) ∨ False) ?_ ?_
  ·refine aw_loop (by kernel_rfl) (fun (s : Int × Int) fr' h' => ∃ (x3 : Int) (x4 : Int), (x3, x4) = s ∧ Has fr' 28 [(1, .ptr (some (h.size, 0))), (3, .int .i64 x3), (10, rowV rqw2 x2.length), (11, .int .i64 (x2.length : Int)), (12, .int .i64 x4)] ∧ HH g h' [.lst rqw2 4 (lst eB x2), .obj h.size (.cells none 2 [vs e_S_tree_Node p0.Nodes, .int .i64 p0.Root])] F) ho ⟨(0 : Int), (0 : Int), rfl, H.less _ (fun fr => by kernel_rfl), A⟩ ?_
   clear ho hm H A
   intro s q fr h4 hI hm
   obtain ⟨x3, x4, rfl, H, A⟩ := hI
   unfold M_tree_Tree_Groups_L0 at hm
   refine aw_seq (by kernel_rfl) ?_
   refine aw_reg (id := 5) (n := 1) [(0, [])] (by kernel_rfl) (by kernel_rfl) ?_
   refine at_seg [(0, [])] [(1, .ptr (some (h.size, 0))), (3, .int .i64 x3), (10, rowV rqw2 x2.length), (11, .int .i64 (x2.length : Int)), (12, .int .i64 x4), (13, .bool (decide (x4 < (x2.length : Int))))] H (noU_all rfl) (fun fr => by kernel_rfl) ?_
   intro fr H
   refine at_nil ?_
   show AW cfg 9 g (right (left (left (right (left (right (right (right (bodyC cfg.P 9))))))))) fr h4 _
   refine aw_seq (by kernel_rfl) ?_
   rcases iteB_some hm with ⟨hb, hm⟩ | ⟨hb, hm⟩
   ·replace H := H.know 13 hb (by kernel_rfl)
    refine aw_true (x := .tmp 13) (by kernel_rfl) H (fun fr => by kernel_rfl) ?_
    refine aw_skip (by kernel_rfl) ?_
    show AW cfg 9 g (right (right (left (left (right (left (right (right (right (bodyC cfg.P 9)))))))))) fr h4 _
    refine aw_seq (by kernel_rfl) ?_
    obtain ⟨o2, ho, hm⟩ := bind_some hm
    refine aw_mono (Q' := fun e fr' h' => (∃ (x6 : Int), e = .normal ∧ x6 = o2 ∧ Has fr' 28 [(1, .ptr (some (h.size, 0))), (3, .int .i64 x6), (10, rowV rqw2 x2.length), (11, .int .i64 (x2.length : Int)), (12, .int .i64 x4)] ∧ HH g h' [.lst rqw2 4 (lst eB x2), .obj h.size (.cells none 2 [vs e_S_tree_Node p0.Nodes, .int .i64 p0.Root])] F) ∨ False) ?_ ?_
    ·replace hm := ho
     clear ho
     refine aw_block (id := 1) (by kernel_rfl) ?_
     refine aw_seq (by kernel_rfl) ?_
     refine aw_reg (id := 6) (n := 5) [(0, []), (1, []), (2, []), (3, []), (4, [])] (by kernel_rfl) (by kernel_rfl) ?_
     refine at_seg [(0, [])] [(1, .ptr (some (h.size, 0))), (3, .int .i64 x3), (10, rowV rqw2 x2.length), (11, .int .i64 (x2.length : Int)), (12, .int .i64 x4), (14, .int .i64 x4)] H (noU_all rfl) (fun fr => by kernel_rfl) ?_
     intro fr H
     obtain ⟨x7, hx, hm⟩ := bind_some hm
     obtain ⟨i1, er1, _, hx, hq1⟩ := HH.ixO encB (by decide) A 0 (xs := x2) rfl hx
     refine at_step (v := .ptr (some (i1, x4.toNat * 1))) (h1 := h4) [(1, .ptr (some (h.size, 0))), (3, .int .i64 x3), (10, rowV rqw2 x2.length), (11, .int .i64 (x2.length : Int)), (12, .int .i64 x4), (14, .int .i64 x4), (15, .ptr (some (i1, x4.toNat * 1)))] H (fun fr => by kernel_rfl) (fun fr => .of (s_ixL (s := rowS rqw2 x2.length) (by kernel_rfl) hx)) ?_
     intro fr t H
     refine at_step (v := .bool x7) (h1 := h4) [(1, .ptr (some (h.size, 0))), (3, .int .i64 x3), (10, rowV rqw2 x2.length), (11, .int .i64 (x2.length : Int)), (12, .int .i64 x4), (14, .int .i64 x4), (16, .bool x7)] H (fun fr => by kernel_rfl) (fun fr => .of (s_ld (by kernel_rfl) (row_ld1 encB (HH.row A 0 rfl er1) hq1 (o := 0) rfl))) ?_
     intro fr t H
     refine at_seg [(3, []), (4, [])] [(1, .ptr (some (h.size, 0))), (3, .int .i64 x3), (4, .int .i64 x4), (5, .bool x7), (10, rowV rqw2 x2.length), (11, .int .i64 (x2.length : Int)), (12, .int .i64 x4)] H (noU_all rfl) (fun fr => by kernel_rfl) ?_
     intro fr H
     refine at_nil ?_
     show AW cfg 9 g (right (left (left (right (right (left (left (right (left (right (right (right (bodyC cfg.P 9))))))))))))) fr h4 _
     refine aw_seq (by kernel_rfl) ?_
     refine aw_reg (id := 7) (n := 1) [(0, [])] (by kernel_rfl) (by kernel_rfl) ?_
     refine at_seg [(0, [])] [(1, .ptr (some (h.size, 0))), (3, .int .i64 x3), (4, .int .i64 x4), (10, rowV rqw2 x2.length), (11, .int .i64 (x2.length : Int)), (12, .int .i64 x4), (17, .bool x7)] H (noU_all rfl) (fun fr => by kernel_rfl) ?_
     intro fr H
     refine at_nil ?_
     show AW cfg 9 g (right (right (left (left (right (right (left (left (right (left (right (right (right (bodyC cfg.P 9)))))))))))))) fr h4 _
     rcases iteB_some hm with ⟨hb, hm⟩ | ⟨hb, hm⟩
     ·replace H := H.know 17 hb (by kernel_rfl)
      refine aw_true (x := .tmp 17) (by kernel_rfl) H (fun fr => by kernel_rfl) ?_
      refine aw_reg (id := 8) (n := 9) [(0, []), (1, []), (2, []), (3, []), (4, []), (5, []), (6, []), (7, []), (8, [])] (by kernel_rfl) (by kernel_rfl) ?_
      refine at_seg [(0, []), (1, [])] [(1, .ptr (some (h.size, 0))), (4, .int .i64 x4), (10, rowV rqw2 x2.length), (11, .int .i64 (x2.length : Int)), (12, .int .i64 x4), (18, .int .i64 x3), (19, .ptr (some (h.size, 0)))] H (noU_all rfl) (fun fr => by kernel_rfl) ?_
      intro fr H
      refine at_step (v := vs e_S_tree_Node p0.Nodes) (h1 := h4) [(1, .ptr (some (h.size, 0))), (4, .int .i64 x4), (10, rowV rqw2 x2.length), (11, .int .i64 (x2.length : Int)), (12, .int .i64 x4), (18, .int .i64 x3), (20, vs e_S_tree_Node p0.Nodes)] H (fun fr => by kernel_rfl) (fun fr => .of (s_ld (by kernel_rfl) (A.ld1 1 rfl (o := 0) rfl))) ?_
      intro fr t H
      refine at_seg [(3, [])] [(1, .ptr (some (h.size, 0))), (10, rowV rqw2 x2.length), (11, .int .i64 (x2.length : Int)), (12, .int .i64 x4), (18, .int .i64 x3), (20, vs e_S_tree_Node p0.Nodes), (21, .int .i64 x4)] H (noU_all rfl) (fun fr => by kernel_rfl) ?_
      intro fr H
      obtain ⟨x8, hx, hm⟩ := bind_some hm
      refine at_step (v := .vptr (e_S_tree_Node x8)) (h1 := h4) [(1, .ptr (some (h.size, 0))), (10, rowV rqw2 x2.length), (11, .int .i64 (x2.length : Int)), (12, .int .i64 x4), (18, .int .i64 x3), (22, .vptr (e_S_tree_Node x8))] H (fun fr => by kernel_rfl) (fun fr => .of (s_ixV (e := e_S_tree_Node) (x := x8) enc_S_tree_Node (by decide) (by kernel_rfl) hx)) ?_
      intro fr t H
      refine at_seg [(5, [])] [(1, .ptr (some (h.size, 0))), (10, rowV rqw2 x2.length), (11, .int .i64 (x2.length : Int)), (12, .int .i64 x4), (18, .int .i64 x3), (23, .vptr [.int .i64 x8.Group, .int .u64 x8.Set.w0, .int .u64 x8.Set.w1, .int .u64 x8.Set.w2, .int .u64 x8.Set.w3])] H (noU_all rfl) (fun fr => by kernel_rfl) ?_
      intro fr H
      refine at_step (v := .int .i64 x8.Group) (h1 := h4) [(1, .ptr (some (h.size, 0))), (10, rowV rqw2 x2.length), (11, .int .i64 (x2.length : Int)), (12, .int .i64 x4), (18, .int .i64 x3), (24, .int .i64 x8.Group)] H (fun fr => by kernel_rfl) (fun fr => .of (s_lv (by kernel_rfl))) ?_
      intro fr t H
      refine at_seg [(7, []), (8, [])] [(1, .ptr (some (h.size, 0))), (3, .int .i64 (mx x3 x8.Group)), (10, rowV rqw2 x2.length), (11, .int .i64 (x2.length : Int)), (12, .int .i64 x4)] H (noU_all rfl) (fun fr => by kernel_rfl) ?_
      intro fr H
      refine at_nil ?_
      exact Or.inl ⟨mx x3 x8.Group, rfl, Option.some.inj hm, H.less _ (fun fr => by kernel_rfl), A⟩
     ·replace H := H.know 17 hb (by kernel_rfl)
      refine aw_false (x := .tmp 17) (by kernel_rfl) H (fun fr => by kernel_rfl) ?_
      refine aw_skip (by kernel_rfl) ?_
      exact Or.inl ⟨x3, rfl, Option.some.inj hm, H.less _ (fun fr => by kernel_rfl), A⟩
    ·clear ho
     clear A
     intro e fr h5 hQ
     rcases hQ with ⟨x6, rfl, rfl, H, A⟩ | hF
     ·skip
      show AW cfg 9 g (right (right (right (left (left (right (left (right (right (right (bodyC cfg.P 9))))))))))) fr h5 _
      refine aw_reg (id := 9) (n := 2) [(0, []), (1, [])] (by kernel_rfl) (by kernel_rfl) ?_
      refine at_seg [(0, []), (1, [])] [(1, .ptr (some (h.size, 0))), (3, .int .i64 x6), (10, rowV rqw2 x2.length), (11, .int .i64 (x2.length : Int)), (12, .int .i64 (IntKind.i64.wrap (x4 + (1 : Int))))] H (noU_all rfl) (fun fr => by kernel_rfl) ?_
      intro fr H
      refine at_nil ?_
      exact Exists.intro (x6, IntKind.i64.wrap (x4 + (1 : Int))) (And.intro (Option.some.inj hm).symm ⟨x6, IntKind.i64.wrap (x4 + (1 : Int)), rfl, H.less _ (fun fr => by kernel_rfl), A⟩)
     ·exact hF.elim
   ·replace H := H.know 13 hb (by kernel_rfl)
    refine aw_false (x := .tmp 13) (by kernel_rfl) H (fun fr => by kernel_rfl) ?_
    refine aw_exit (i := 0) (by kernel_rfl) ?_
    replace A : HH g h4 [.obj h.size (.cells none 2 [vs e_S_tree_Node p0.Nodes, .int .i64 p0.Root])] F := (HH.dropF (A.front 1 rfl) 1)
    exact Exists.intro _ (And.intro (Option.some.inj hm).symm (fun e => Or.inl ⟨x3, rfl, e, H.less _ (fun fr => by kernel_rfl), A⟩))
  ·clear ho
   clear A
   intro e fr h6 hQ
   rcases hQ with ⟨x5, rfl, rfl, H, A⟩ | hF
   ·skip
    show AW cfg 9 g (right (right (right (right (bodyC cfg.P 9))))) fr h6 _
    refine aw_seq (by kernel_rfl) ?_
    refine aw_reg (id := 10) (n := 2) [(0, []), (1, [])] (by kernel_rfl) (by kernel_rfl) ?_
    refine at_seg [(0, []), (1, [])] [(2, .int .i64 x5)] H (noU_all rfl) (fun fr => by kernel_rfl) ?_
    intro fr H
    refine at_nil ?_
    show AW cfg 9 g (right (right (right (right (right (bodyC cfg.P 9)))))) fr h6 _
    refine aw_ret (by kernel_rfl) ?_
    have e1 := Option.some.inj hm
    subst e1
    refine ⟨.inl rfl, .int .i64 x5, resH H (fun fr => by kernel_rfl), ?_⟩
    replace A : HH g h6 [] F := (HH.dropF A 0)
    exact ⟨rfl, A⟩
   ·exact hF.elim
end Go.Av.L
