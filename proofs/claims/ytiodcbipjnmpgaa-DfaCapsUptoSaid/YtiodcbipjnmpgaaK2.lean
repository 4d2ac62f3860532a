/-
 Models of functions, and that the abstract run tells them. Written by lift2.py.
-/
import Derived.Test.YtiodcbipjnmpgaaKCfg
import Derived.Test.YtiodcbipjnmpgaaK0
import Derived.Test.YtiodcbipjnmpgaaK1
namespace Go.Av.L
open Go.Av Go.Lib
set_option maxRecDepth 10000
set_option linter.unusedVariables false
set_option linter.unusedSimpArgs false
variable {g : Gd} {h : AHeap} {F : List Ck} {av : List AVal}
noncomputable def M_rex_walk_branch_sPO_L0 (s : (List Int) × (List UInt8) × Int × Bool × Int × Int × Int × Int × Bool × (List S_tree_Node) × Bool) : Option (((List Int) × (List UInt8) × Int × Bool × Int × Int × Int × Int × Bool × (List S_tree_Node) × Bool) ⊕ (((List Int) × (List UInt8) × Int × Bool × Int × Int × Int × Int × Bool × (List S_tree_Node)))) :=
 match s with
 | (x1, x2, x3, x4, x5, x6, x7, x8, x9, x10, x11) => (M_rex_walk_ok_sPO (⟨x2, x3, x4, (⟨x10, x5⟩ : S_tree_Tree), x6, x7, x8, x9⟩ : S_rex_walk)).bind fun x22 => (iteB x22 ((M_rex_walk_closes_sPO (⟨x2, x3, x4, (⟨x10, x5⟩ : S_tree_Tree), x6, x7, x8, x9⟩ : S_rex_walk)).bind fun x24 => some (!x24)) (some false) : Option (Bool)).bind fun x23 => iteB x23 ((iteB (!x4) ((ixS x2 x3).bind fun x26 => some (x26 == (42 : Int))) (some false) : Option (Bool)).bind fun x25 => iteB (x25 && (((x1.length : Int) == (0 : Int)) || x11)) ((M_rex_walk_one_sPOI (⟨x2, IntKind.i64.wrap (x3 + (1 : Int)), x4, (⟨x10, x5⟩ : S_tree_Tree), x6, x7, x8, x9⟩ : S_rex_walk) (42 : Int)).bind fun (x27, x28, x29) => (M_rex_walk_repeats_sPOI (⟨x28.s_, x28.at_, x28.extended_, (⟨x29, x28.t_.Root⟩ : S_tree_Tree), x28.groups_, x28.depth_, x28.wrong_, x28.full_⟩ : S_rex_walk) x27).bind fun (x30, x31, x32) => need (okN 8 (x1.length + ([x30] : List Int).length)) <| some (.inl ((x1 ++ ([x30] : List Int)), x31.s_, x31.at_, x31.extended_, x31.t_.Root, x31.groups_, x31.depth_, x31.wrong_, x31.full_, x32, false))) ((iteB (!x4) ((ixS x2 x3).bind fun x34 => some (x34 == (94 : Int))) (some false) : Option (Bool)).bind fun x33 => iteB (x33 && ((x1.length : Int) == (0 : Int))) ((M_rex_walk_add_sPOR (⟨x2, IntKind.i64.wrap (x3 + (1 : Int)), x4, (⟨x10, x5⟩ : S_tree_Tree), x6, x7, x8, x9⟩ : S_rex_walk) (⟨(6 : Int), (0 : Int), (0 : Int), (0 : Int), (0 : Int), (0 : Int), (⟨(0 : Int), (0 : Int), (0 : Int), (0 : Int)⟩ : A4_uint64)⟩ : S_tree_Node)).bind fun (x35, x36, x37) => need (okN 8 (x1.length + ([x35] : List Int).length)) <| some (.inl ((x1 ++ ([x35] : List Int)), x36.s_, x36.at_, x36.extended_, x36.t_.Root, x36.groups_, x36.depth_, x36.wrong_, x36.full_, x37, true))) ((M_rex_walk_atom_sPO (⟨x2, x3, x4, (⟨x10, x5⟩ : S_tree_Tree), x6, x7, x8, x9⟩ : S_rex_walk)).bind fun (x38, x39, x40) => (M_rex_walk_ok_sPO (⟨x39.s_, x39.at_, x39.extended_, (⟨x40, x39.t_.Root⟩ : S_tree_Tree), x39.groups_, x39.depth_, x39.wrong_, x39.full_⟩ : S_rex_walk)).bind fun x41 => iteB (!x41) (some (.inr (x1, x39.s_, x39.at_, x39.extended_, x39.t_.Root, x39.groups_, x39.depth_, x39.wrong_, x39.full_, x40))) (iteB (x39.at_ == x3) ((M_rex_walk_fail_sPOI (⟨x39.s_, x39.at_, x39.extended_, (⟨x40, x39.t_.Root⟩ : S_tree_Tree), x39.groups_, x39.depth_, x39.wrong_, x39.full_⟩ : S_rex_walk) x3).bind fun x42 => some (.inr (x1, x42.s_, x42.at_, x42.extended_, x42.t_.Root, x42.groups_, x42.depth_, x42.wrong_, x42.full_, x40))) ((M_rex_walk_repeats_sPOI (⟨x39.s_, x39.at_, x39.extended_, (⟨x40, x39.t_.Root⟩ : S_tree_Tree), x39.groups_, x39.depth_, x39.wrong_, x39.full_⟩ : S_rex_walk) x38).bind fun (x43, x44, x45) => need (okN 8 (x1.length + ([x43] : List Int).length)) <| some (.inl ((x1 ++ ([x43] : List Int)), x44.s_, x44.at_, x44.extended_, x44.t_.Root, x44.groups_, x44.depth_, x44.wrong_, x44.full_, x45, false))))))) (some (.inr (x1, x2, x3, x4, x5, x6, x7, x8, x9, x10)))
noncomputable def M_rex_walk_branch_sPO (p0 : S_rex_walk) : Option (Int × S_rex_walk × (List S_tree_Node)) :=
 (loop (M_rex_walk_branch_sPO_L0) (([] : List Int), p0.s_, p0.at_, p0.extended_, p0.t_.Root, p0.groups_, p0.depth_, p0.wrong_, p0.full_, p0.t_.Nodes, false)).bind fun (x12, x13, x14, x15, x16, x17, x18, x19, x20, x21) => (M_rex_walk_nest_sPOIO (⟨x13, x14, x15, (⟨x21, x16⟩ : S_tree_Tree), x17, x18, x19, x20⟩ : S_rex_walk) (2 : Int) x12).bind fun (x46, x47, x48) => some (x46, (⟨x47.s_, x47.at_, x47.extended_, (⟨x48, x47.t_.Root⟩ : S_tree_Tree), x47.groups_, x47.depth_, x47.wrong_, x47.full_⟩ : S_rex_walk), x48)
theorem ok_rex_walk_branch_sPO {p0 bp0 rp0_3 q0 u0 u1} (hm : M_rex_walk_branch_sPO p0 = some (q0, u0, u1)) (A : HH g h [.obj bp0 (.cells none 2 [.str p0.s_, .int .i64 p0.at_, .bool p0.extended_, rowV rp0_3 p0.t_.Nodes.length, .int .i64 p0.t_.Root, .int .i64 p0.groups_, .int .i64 p0.depth_, .int .i64 p0.wrong_, .bool p0.full_]), .lst rp0_3 68 (lst e_S_tree_Node p0.t_.Nodes)] F) (hc : canL (cfg.still 56) av = [.ptr (some (bp0, 0))] := by kernel_rfl) : ∃ v h', Runs cfg g h 56 av v h' ∧ ∃ (r'1 : Option Nat), v = .int .i64 q0 ∧ HH g h' [.obj bp0 (.cells none 2 [.str u0.s_, .int .i64 u0.at_, .bool u0.extended_, rowV r'1 u1.length, .int .i64 u0.t_.Root, .int .i64 u0.groups_, .int .i64 u0.depth_, .int .i64 u0.wrong_, .bool u0.full_]), .lst r'1 68 (lst e_S_tree_Node u1)] F := by
 refine rq1 115 [.tmp 2] hc ?_
 clear hc
 unfold M_rex_walk_branch_sPO at hm
 refine bg 115 [(0, .ptr (some (bp0, 0)))] fun fr H => ?_
 refine aw_sr 1 ?_
 refine at_es 1 [] 1 H (fun _ => id) fun fr H => ?_
 refine at_es 1 [(3, .slice none 0)] 1 H (fun _ => id) fun fr H => ?_
 refine at_el 1 [(4, .bool false)] H (fun _ => id) fun fr H => ?_
 refine aw_sq ?_
 refine aw_block (id := 0) (by kernel_rfl) ?_
 replace A : HH g h [.lst none 3 (lst (eI .i64) ([] : List Int)), _, _] F := A.nilL 3
 obtain ⟨o1, ho, hm⟩ := bind_some hm
 refine aw_mono (Q' := fun e fr' h' => (∃ x12 x13 x14 x15 x16 x17 x18 x19 x20 x21, e = .exit 0 ∧ (x12, x13, x14, x15, x16, x17, x18, x19, x20, x21) = o1 ∧ ∃ r3 r4, Has fr' 115 [(0, .ptr (some (bp0, 0))), (3, rowV r3 x12.length)] ∧ HH g h' [.lst r3 3 (lst (eI .i64) x12), .obj bp0 (.cells none 2 [.str x13, .int .i64 x14, .bool x15, rowV r4 x21.length, .int .i64 x16, .int .i64 x17, .int .i64 x18, .int .i64 x19, .bool x20]), .lst r4 68 (lst e_S_tree_Node x21)] F) ∨ False) ?_ ?_
 ·refine aw_loop (by kernel_rfl) (fun (s : (List Int) × (List UInt8) × Int × Bool × Int × Int × Int × Int × Bool × (List S_tree_Node) × Bool) fr' h' => ∃ x1 x2 x3 x4 x5 x6 x7 x8 x9 x10 x11, (x1, x2, x3, x4, x5, x6, x7, x8, x9, x10, x11) = s ∧ ∃ r1 r2, Has fr' 115 [(0, .ptr (some (bp0, 0))), (3, rowV r1 x1.length), (4, .bool x11)] ∧ HH g h' [.lst r1 3 (lst (eI .i64) x1), .obj bp0 (.cells none 2 [.str x2, .int .i64 x3, .bool x4, rowV r2 x10.length, .int .i64 x5, .int .i64 x6, .int .i64 x7, .int .i64 x8, .bool x9]), .lst r2 68 (lst e_S_tree_Node x10)] F) ho ⟨_, _, _, _, _, _, _, _, _, _, _, rfl, none, rp0_3, H.ls, A⟩ ?_
  clear ho hm H A
  intro s q fr h1 hI hm
  obtain ⟨x1, x2, x3, x4, x5, x6, x7, x8, x9, x10, x11, rfl, r1, r2, H, A⟩ := hI
  unfold M_rex_walk_branch_sPO_L0 at hm
  refine aw_sq ?_
  refine aw_sr 7 ?_
  replace A := A.k3 1 2 0
  obtain ⟨x22, hx, hm⟩ := bind_some hm
  obtain ⟨v1, h2, hr, rfl, A1⟩ := ok_rex_walk_ok_sPO (av := [.ptr (some (bp0, 0))]) hx (A.cut 2)
  replace A := A.g22 A1
  refine at_gc1 1 [] 9 hr H fun fr t H => ?_
  refine at_sl 1 [(10, .bool x22)] H fun fr H => ?_
  obtain ⟨x23, ho, hm⟩ := bind_some hm
  refine at_cl 4 (fun fr' h' => Has fr' 115 [(0, .ptr (some (bp0, 0))), (3, rowV r1 x1.length), (4, .bool x11), (14, .bool x23)] ∧ HH g h' [.obj bp0 (.cells none 2 [.str x2, .int .i64 x3, .bool x4, rowV r2 x10.length, .int .i64 x5, .int .i64 x6, .int .i64 x7, .int .i64 x8, .bool x9]), .lst r2 68 (lst e_S_tree_Node x10), .lst r1 3 (lst (eI .i64) x1)] F) ?_ ?_
  ·rcases iteB_some ho with ⟨hb, hm⟩ | ⟨hb, hm⟩
   ·replace H := H.kn 10 hb
    obtain ⟨x24, hx, hm⟩ := bind_some hm
    obtain ⟨v1, h4, hr, rfl, A1⟩ := ok_rex_walk_closes_sPO (av := [.ptr (some (bp0, 0))]) hx (A.cut 2)
    replace A := A.g22 A1
    refine at_gc1 1 [] 12 hr H fun fr t H => ?_
    refine at_sl 2 [(14, .bool (!x24))] H fun fr H => ?_
    obtain rfl := injA hm
    exact at_nil ⟨H.ls, A⟩
   replace H := H.kn 10 hb
   refine at_sl 4 [(14, .bool false)] H fun fr H => ?_
   obtain rfl := injA hm
   exact at_nil ⟨H.ls, A⟩
  clear A
  intro t fr h3 hK
  obtain ⟨H, A⟩ := hK
  refine at_nl id ?_
  refine aw_if 14 H hm (fun hb hm H => ?_) fun hb hm H => ?_
  ·refine aw_kn id ?_
   refine aw_block (id := 1) (by kernel_rfl) ?_
   refine aw_sr 5 ?_
   refine at_gl 3 [] 18 0 1 A H fun fr t H => ?_
   refine at_es 1 [(5, .int .i64 x3)] 4 H (fun _ => id) fun fr H => ?_
   refine at_el 4 [(6, .bool ((x1.length : Int) == (0 : Int)))] H (fun _ => id) fun fr H => ?_
   refine aw_sq ?_
   refine aw_sq ?_
   refine aw_dg 6 23 ?_
   refine at_gl 3 [] 25 0 2 A H fun fr t H => ?_
   refine at_sl 2 [(27, .bool (!x4))] H fun fr H => ?_
   obtain ⟨x25, ho, hm⟩ := bind_some hm
   refine at_cl 11 (fun fr' h' => Has fr' 115 [(0, .ptr (some (bp0, 0))), (3, rowV r1 x1.length), (4, .bool x11), (5, .int .i64 x3), (6, .bool ((x1.length : Int) == (0 : Int))), (38, .bool x25)] ∧ HH g h' [.obj bp0 (.cells none 2 [.str x2, .int .i64 x3, .bool x4, rowV r2 x10.length, .int .i64 x5, .int .i64 x6, .int .i64 x7, .int .i64 x8, .bool x9]), .lst r2 68 (lst e_S_tree_Node x10), .lst r1 3 (lst (eI .i64) x1)] F) ?_ ?_
   ·rcases iteB_some ho with ⟨hb, hm⟩ | ⟨hb, hm⟩
    ·replace H := H.kn 27 hb
     refine at_gl 3 [] 31 0 0 A H fun fr t H => ?_
     refine at_gl 3 [] 35 0 1 A H fun fr t H => ?_
     obtain ⟨x26, hx, hm⟩ := bind_some hm
     refine at_l1 36 (.int .u8 x26) h3 H (fun fr => .of (s_ixS (by kernel_rfl) hx)) fun fr t H => ?_
     refine at_sl 2 [(38, .bool (x26 == (42 : Int)))] H fun fr H => ?_
     obtain rfl := injA hm
     exact at_nil ⟨H.ls, A⟩
    replace H := H.kn 27 hb
    refine at_sl 11 [(38, .bool false)] H fun fr H => ?_
    obtain rfl := injA hm
    exact at_nil ⟨H.ls, A⟩
   clear A
   intro t fr h5 hK
   obtain ⟨H, A⟩ := hK
   refine at_sl 1 [(39, .bool x25)] H fun fr H => ?_
   refine at_cl 5 (fun fr' h' => h5 = h' ∧ Has fr' 115 [(0, .ptr (some (bp0, 0))), (3, rowV r1 x1.length), (5, .int .i64 x3), (6, .bool ((x1.length : Int) == (0 : Int))), (44, .bool (x25 && (((x1.length : Int) == (0 : Int)) || x11)))]) ?_ ?_
   ·cases hb : (x25 : Bool) with
    | true =>
     replace H := H.kn 39 hb
     refine at_sl 2 [(41, .bool ((x1.length : Int) == (0 : Int)))] H fun fr H => ?_
     refine at_cl 2 (fun fr' h' => h5 = h' ∧ Has fr' 115 [(0, .ptr (some (bp0, 0))), (3, rowV r1 x1.length), (5, .int .i64 x3), (6, .bool ((x1.length : Int) == (0 : Int))), (39, .bool true), (43, .bool (((x1.length : Int) == (0 : Int)) || x11))]) ?_ ?_
     ·cases hb : ((x1.length : Int) == (0 : Int) : Bool) with
      | true =>
       replace H := H.kn 41 hb
       refine at_sl 2 [(43, .bool true)] H fun fr H => ?_
       exact at_zb H hb
      | false =>
       replace H := H.kn 41 hb
       refine at_sl 2 [(43, .bool x11)] H fun fr H => ?_
       exact at_zb H hb
     intro t fr h' hK
     obtain ⟨e, H⟩ := hK
     subst e
     refine at_sl 1 [(44, .bool (((x1.length : Int) == (0 : Int)) || x11))] H fun fr H => ?_
     exact at_zb H hb
    | false =>
     replace H := H.kn 39 hb
     refine at_sl 5 [(44, .bool false)] H fun fr H => ?_
     exact at_zb H hb
   intro t fr h' hK
   obtain ⟨e, H⟩ := hK
   subst e
   refine at_nl id ?_
   refine aw_if 44 H hm (fun hb hm H => ?_) fun hb hm H => ?_
   ·refine aw_sr 8 ?_
    refine at_gl 3 [(45, .ptr (some (bp0, 0)))] 48 0 1 A H fun fr t H => ?_
    obtain ⟨h6, hx, A⟩ := A.s0 1 [.int .i64 (IntKind.i64.wrap (x3 + (1 : Int)))] [_, _, _, _, _, _, _, _, _]
    refine at_gs 3 [] hx H fun fr t H => ?_
    refine at_ns 8 id ?_
    obtain ⟨⟨x27, x28, x29⟩, hx, hm⟩ := bind_some hm
    obtain ⟨v1, h7, hr, r5, rfl, A1⟩ := ok_rex_walk_one_sPOI (av := [.ptr (some (bp0, 0)), .int .u8 42]) hx (A.cut 2)
    replace A := A.g22 A1
    refine at_gc1 3 [(52, rowV r1 x1.length), (53, .ptr (some (bp0, 0)))] 55 hr H fun fr t H => ?_
    obtain ⟨⟨x30, x31, x32⟩, hx, hm⟩ := bind_some hm
    obtain ⟨v1, h8, hr, r6, rfl, A1⟩ := ok_rex_walk_repeats_sPOI (av := [.ptr (some (bp0, 0)), .int .i64 x27]) hx (A.cut 2)
    replace A := A.g22 A1
    refine at_lc1 56 hr H fun fr t H => ?_
    obtain ⟨h9, e1, A⟩ := A.pL 3 [.int .i64 x30]
    refine at_ln 57 (rowV (some h8.size) (([x30] : List Int).length)) e1 H fun fr t H => ?_
    obtain ⟨hb, hm⟩ := need_some hm
    obtain ⟨r7, h10, hx, A1⟩ := HH.appO (encI .i64) (by decide) A 3 (xs := x1) (ys := ([x30] : List Int)) rfl (row_first A 0 rfl (n := ([x30] : List Int).length) (z := 1) rfl (by decide)) rfl rfl hb
    replace A : HH g h10 [.lst (some h8.size) 3 ([.int .i64 x30]), _, _, .lst r7 3 (lst (eI .i64) (x1 ++ ([x30] : List Int)))] F := A1
    replace A := A.k3 1 2 3
    refine at_l1 58 _ _ H (fun fr => .of (s_app (s := rowS r1 x1.length) (by kernel_rfl) hx)) fun fr t H => ?_
    refine at_se 1 [(0, .ptr (some (bp0, 0))), (3, rowV r7 ((x1 ++ ([x30] : List Int)).length))] H fun fr H => ?_
    refine at_ns 1 id ?_
    refine at_el 1 [(4, .bool false)] H (fun _ => id) fun fr H => ?_
    refine aw_exit (i := 1) (by kernel_rfl) ?_
    replace A := A.k3 2 0 1
    exact nx hm ⟨_, _, _, _, _, _, _, _, _, _, _, rfl, _, _, H.ls, A⟩
   refine aw_kn id ?_
   refine aw_sq ?_
   refine aw_sq ?_
   refine aw_dg 10 20 ?_
   refine at_gl 3 [] 62 0 2 A H fun fr t H => ?_
   refine at_sl 2 [(64, .bool (!x4))] H fun fr H => ?_
   obtain ⟨x33, ho, hm⟩ := bind_some hm
   refine at_cl 11 (fun fr' h' => Has fr' 115 [(0, .ptr (some (bp0, 0))), (3, rowV r1 x1.length), (5, .int .i64 x3), (6, .bool ((x1.length : Int) == (0 : Int))), (75, .bool x33)] ∧ HH g h' [.obj bp0 (.cells none 2 [.str x2, .int .i64 x3, .bool x4, rowV r2 x10.length, .int .i64 x5, .int .i64 x6, .int .i64 x7, .int .i64 x8, .bool x9]), .lst r2 68 (lst e_S_tree_Node x10), .lst r1 3 (lst (eI .i64) x1)] F) ?_ ?_
   ·rcases iteB_some ho with ⟨hb, hm⟩ | ⟨hb, hm⟩
    ·replace H := H.kn 64 hb
     refine at_gl 3 [] 68 0 0 A H fun fr t H => ?_
     refine at_gl 3 [] 72 0 1 A H fun fr t H => ?_
     obtain ⟨x34, hx, hm⟩ := bind_some hm
     refine at_l1 73 (.int .u8 x34) h5 H (fun fr => .of (s_ixS (by kernel_rfl) hx)) fun fr t H => ?_
     refine at_sl 2 [(75, .bool (x34 == (94 : Int)))] H fun fr H => ?_
     obtain rfl := injA hm
     exact at_nil ⟨H.ls, A⟩
    replace H := H.kn 64 hb
    refine at_sl 11 [(75, .bool false)] H fun fr H => ?_
    obtain rfl := injA hm
    exact at_nil ⟨H.ls, A⟩
   clear A
   intro t fr h11 hK
   obtain ⟨H, A⟩ := hK
   refine at_sl 1 [(76, .bool x33)] H fun fr H => ?_
   refine at_cl 2 (fun fr' h' => h11 = h' ∧ Has fr' 115 [(0, .ptr (some (bp0, 0))), (3, rowV r1 x1.length), (5, .int .i64 x3), (78, .bool (x33 && ((x1.length : Int) == (0 : Int))))]) ?_ ?_
   ·cases hb : (x33 : Bool) with
    | true =>
     replace H := H.kn 76 hb
     refine at_sl 2 [(78, .bool ((x1.length : Int) == (0 : Int)))] H fun fr H => ?_
     exact at_zb H hb
    | false =>
     replace H := H.kn 76 hb
     refine at_sl 2 [(78, .bool false)] H fun fr H => ?_
     exact at_zb H hb
   intro t fr h' hK
   obtain ⟨e, H⟩ := hK
   subst e
   refine at_nl id ?_
   refine aw_if 78 H hm (fun hb hm H => ?_) fun hb hm H => ?_
   ·refine aw_sr 8 ?_
    refine at_gl 3 [(79, .ptr (some (bp0, 0)))] 82 0 1 A H fun fr t H => ?_
    obtain ⟨h12, hx, A⟩ := A.s0 1 [.int .i64 (IntKind.i64.wrap (x3 + (1 : Int)))] [_, _, _, _, _, _, _, _, _]
    refine at_gs 3 [] hx H fun fr t H => ?_
    refine at_ns 7 id ?_
    obtain ⟨⟨x35, x36, x37⟩, hx, hm⟩ := bind_some hm
    obtain ⟨v1, h13, hr, r8, rfl, A1⟩ := ok_rex_walk_add_sPOR (av := [.ptr (some (bp0, 0)), .agg [.int .i64 6, .int .i64 0, .int .i64 0, .int .i64 0, .int .i64 0, .int .i64 0, .int .u64 0, .int .u64 0, .int .u64 0, .int .u64 0]]) hx (A.cut 2)
    replace A := A.g22 A1
    refine at_gc1 3 [(86, rowV r1 x1.length)] 89 hr H fun fr t H => ?_
    obtain ⟨h14, e2, A⟩ := A.pL 3 [.int .i64 x35]
    refine at_ln 90 (rowV (some h13.size) (([x35] : List Int).length)) e2 H fun fr t H => ?_
    obtain ⟨hb, hm⟩ := need_some hm
    obtain ⟨r9, h15, hx, A1⟩ := HH.appO (encI .i64) (by decide) A 3 (xs := x1) (ys := ([x35] : List Int)) rfl (row_first A 0 rfl (n := ([x35] : List Int).length) (z := 1) rfl (by decide)) rfl rfl hb
    replace A : HH g h15 [.lst (some h13.size) 3 ([.int .i64 x35]), _, _, .lst r9 3 (lst (eI .i64) (x1 ++ ([x35] : List Int)))] F := A1
    replace A := A.k3 1 2 3
    refine at_l1 91 _ _ H (fun fr => .of (s_app (s := rowS r1 x1.length) (by kernel_rfl) hx)) fun fr t H => ?_
    refine at_se 1 [(0, .ptr (some (bp0, 0))), (3, rowV r9 ((x1 ++ ([x35] : List Int)).length))] H fun fr H => ?_
    refine at_ns 1 id ?_
    refine at_el 1 [(4, .bool true)] H (fun _ => id) fun fr H => ?_
    refine aw_exit (i := 1) (by kernel_rfl) ?_
    replace A := A.k3 2 0 1
    exact nx hm ⟨_, _, _, _, _, _, _, _, _, _, _, rfl, _, _, H.ls, A⟩
   refine aw_ks 3 id ?_
   obtain ⟨⟨x38, x39, x40⟩, hx, hm⟩ := bind_some hm
   obtain ⟨v1, h16, hr, r10, rfl, A1⟩ := ok_rex_walk_atom_sPO (av := [.ptr (some (bp0, 0))]) hx (A.cut 2)
   replace A := A.g22 A1
   refine at_gc1 1 [] 93 hr H fun fr t H => ?_
   refine at_el 1 [(7, .int .i64 x38)] H (fun _ => id) fun fr H => ?_
   refine aw_sq ?_
   refine aw_sr 3 ?_
   obtain ⟨x41, hx, hm⟩ := bind_some hm
   obtain ⟨v1, h17, hr, rfl, A1⟩ := ok_rex_walk_ok_sPO (av := [.ptr (some (bp0, 0))]) hx (A.cut 2)
   replace A := A.g22 A1
   refine at_gc1 1 [] 95 hr H fun fr t H => ?_
   refine at_el 1 [(96, .bool (!x41))] H (fun _ => id) fun fr H => ?_
   refine aw_if 96 H hm (fun hb hm H => ?_) fun hb hm H => ?_
   ·refine aw_exit (i := 0) (by kernel_rfl) ?_
    replace A := A.k3 2 0 1
    exact nr hm fun e => .inl ⟨_, _, _, _, _, _, _, _, _, _, rfl, e, _, _, H.ls, A⟩
   refine aw_kn id ?_
   refine aw_sq ?_
   refine aw_sr 6 ?_
   refine at_gl 3 [] 100 0 1 A H fun fr t H => ?_
   refine at_el 2 [(102, .bool (x39.at_ == x3))] H (fun _ => id) fun fr H => ?_
   refine aw_if 102 H hm (fun hb hm H => ?_) fun hb hm H => ?_
   ·refine aw_sr 3 ?_
    obtain ⟨x42, hx, hm⟩ := bind_some hm
    obtain ⟨v1, h18, hr, rfl, A1⟩ := ok_rex_walk_fail_sPOI (av := [.ptr (some (bp0, 0)), .int .i64 x3]) hx (A.cut 2)
    replace A := A.g22 A1
    refine at_gc0 2 [] hr H fun fr t H => ?_
    refine at_nl id ?_
    refine aw_exit (i := 0) (by kernel_rfl) ?_
    replace A := A.k3 2 0 1
    exact nr hm fun e => .inl ⟨_, _, _, _, _, _, _, _, _, _, rfl, e, _, _, H.ls, A⟩
   refine aw_ks 7 id ?_
   obtain ⟨⟨x43, x44, x45⟩, hx, hm⟩ := bind_some hm
   obtain ⟨v1, h19, hr, r11, rfl, A1⟩ := ok_rex_walk_repeats_sPOI (av := [.ptr (some (bp0, 0)), .int .i64 x38]) hx (A.cut 2)
   replace A := A.g22 A1
   refine at_gc1 3 [(106, rowV r1 x1.length)] 109 hr H fun fr t H => ?_
   obtain ⟨h20, e3, A⟩ := A.pL 3 [.int .i64 x43]
   refine at_ln 110 (rowV (some h19.size) (([x43] : List Int).length)) e3 H fun fr t H => ?_
   obtain ⟨hb, hm⟩ := need_some hm
   obtain ⟨r12, h21, hx, A1⟩ := HH.appO (encI .i64) (by decide) A 3 (xs := x1) (ys := ([x43] : List Int)) rfl (row_first A 0 rfl (n := ([x43] : List Int).length) (z := 1) rfl (by decide)) rfl rfl hb
   replace A : HH g h21 [.lst (some h19.size) 3 ([.int .i64 x43]), _, _, .lst r12 3 (lst (eI .i64) (x1 ++ ([x43] : List Int)))] F := A1
   replace A := A.k3 1 2 3
   refine at_l1 111 _ _ H (fun fr => .of (s_app (s := rowS r1 x1.length) (by kernel_rfl) hx)) fun fr t H => ?_
   refine at_se 1 [(0, .ptr (some (bp0, 0))), (3, rowV r12 ((x1 ++ ([x43] : List Int)).length))] H fun fr H => ?_
   refine at_nr 1 id ?_
   refine at_sl 1 [(4, .bool false)] H fun fr H => ?_
   refine at_nil ?_
   replace A := A.k3 2 0 1
   exact nx hm ⟨_, _, _, _, _, _, _, _, _, _, _, rfl, _, _, H.ls, A⟩
  refine aw_exit (i := 0) (by kernel_rfl) ?_
  replace A := A.k3 2 0 1
  exact nr hm fun e => .inl ⟨_, _, _, _, _, _, _, _, _, _, rfl, e, _, _, H.ls, A⟩
 clear ho
 clear A
 intro e fr h22 hQ
 rcases hQ with ⟨x12, x13, x14, x15, x16, x17, x18, x19, x20, x21, rfl, rfl, r3, r4, H, A⟩ | hF
 ·show AW _ _ _ _ _ _ _
  refine aw_sr 4 ?_
  replace A := A.k3 1 2 0
  obtain ⟨⟨x46, x47, x48⟩, hx, hm⟩ := bind_some hm
  obtain ⟨v1, h23, hr, r13, rfl, A1⟩ := ok_rex_walk_nest_sPOIO (av := [.ptr (some (bp0, 0)), .int .i64 2, rowV r3 x12.length]) hx (A.cut 3)
  replace A := A.g33 A1
  refine at_gc1 2 [] 114 hr H fun fr t H => ?_
  refine at_el 1 [(2, .int .i64 x46)] H (fun _ => id) fun fr H => ?_
  refine aw_rt ?_
  obtain ⟨rfl, rfl, rfl⟩ := injC hm
  refine ⟨.inl rfl, .int .i64 x46, rH H, ?_⟩
  replace A := A.d2
  exact ⟨r13, rfl, A⟩
 exact hF.elim
noncomputable def M_rex_walk_expression_sPO_L0 (s : (List Int) × (List UInt8) × Int × Bool × Int × Int × Int × Int × Bool × (List S_tree_Node)) : Option (((List Int) × (List UInt8) × Int × Bool × Int × Int × Int × Int × Bool × (List S_tree_Node)) ⊕ (((List Int) × (List UInt8) × Int × Bool × Int × Int × Int × Int × Bool × (List S_tree_Node)))) :=
 match s with
 | (x1, x2, x3, x4, x5, x6, x7, x8, x9, x10) => (M_rex_walk_branch_sPO (⟨x2, x3, x4, (⟨x10, x5⟩ : S_tree_Tree), x6, x7, x8, x9⟩ : S_rex_walk)).bind fun (x21, x22, x23) => need (okN 8 (x1.length + ([x21] : List Int).length)) <| (M_rex_walk_ok_sPO (⟨x22.s_, x22.at_, x22.extended_, (⟨x23, x22.t_.Root⟩ : S_tree_Tree), x22.groups_, x22.depth_, x22.wrong_, x22.full_⟩ : S_rex_walk)).bind fun x24 => (iteB (!x24) (some (x22.s_, x22.at_, x22.extended_, x22.t_.Root, x22.groups_, x22.depth_, x22.wrong_, x22.full_, true)) ((M_rex_walk_next_sPOS (⟨x22.s_, x22.at_, x22.extended_, (⟨x23, x22.t_.Root⟩ : S_tree_Tree), x22.groups_, x22.depth_, x22.wrong_, x22.full_⟩ : S_rex_walk) ([124] : List UInt8)).bind fun (x34, x35) => some (x35.s_, x35.at_, x35.extended_, x35.t_.Root, x35.groups_, x35.depth_, x35.wrong_, x35.full_, !x34)) : Option ((List UInt8) × Int × Bool × Int × Int × Int × Int × Bool × Bool)).bind fun (x25, x26, x27, x28, x29, x30, x31, x32, x33) => iteB x33 (some (.inr ((x1 ++ ([x21] : List Int)), x25, x26, x27, x28, x29, x30, x31, x32, x23))) (some (.inl ((x1 ++ ([x21] : List Int)), x25, x26, x27, x28, x29, x30, x31, x32, x23)))
noncomputable def M_rex_walk_expression_sPO (p0 : S_rex_walk) : Option (Int × S_rex_walk × (List S_tree_Node)) :=
 (loop (M_rex_walk_expression_sPO_L0) (([] : List Int), p0.s_, p0.at_, p0.extended_, p0.t_.Root, p0.groups_, p0.depth_, p0.wrong_, p0.full_, p0.t_.Nodes)).bind fun (x11, x12, x13, x14, x15, x16, x17, x18, x19, x20) => (M_rex_walk_nest_sPOIO (⟨x12, x13, x14, (⟨x20, x15⟩ : S_tree_Tree), x16, x17, x18, x19⟩ : S_rex_walk) (3 : Int) x11).bind fun (x36, x37, x38) => some (x36, (⟨x37.s_, x37.at_, x37.extended_, (⟨x38, x37.t_.Root⟩ : S_tree_Tree), x37.groups_, x37.depth_, x37.wrong_, x37.full_⟩ : S_rex_walk), x38)
theorem ok_rex_walk_expression_sPO {p0 bp0 rp0_3 q0 u0 u1} (hm : M_rex_walk_expression_sPO p0 = some (q0, u0, u1)) (A : HH g h [.obj bp0 (.cells none 2 [.str p0.s_, .int .i64 p0.at_, .bool p0.extended_, rowV rp0_3 p0.t_.Nodes.length, .int .i64 p0.t_.Root, .int .i64 p0.groups_, .int .i64 p0.depth_, .int .i64 p0.wrong_, .bool p0.full_]), .lst rp0_3 68 (lst e_S_tree_Node p0.t_.Nodes)] F) (hc : canL (cfg.still 36) av = [.ptr (some (bp0, 0))] := by kernel_rfl) : ∃ v h', Runs cfg g h 36 av v h' ∧ ∃ (r'1 : Option Nat), v = .int .i64 q0 ∧ HH g h' [.obj bp0 (.cells none 2 [.str u0.s_, .int .i64 u0.at_, .bool u0.extended_, rowV r'1 u1.length, .int .i64 u0.t_.Root, .int .i64 u0.groups_, .int .i64 u0.depth_, .int .i64 u0.wrong_, .bool u0.full_]), .lst r'1 68 (lst e_S_tree_Node u1)] F := by
 refine rq1 20 [.tmp 2] hc ?_
 clear hc
 unfold M_rex_walk_expression_sPO at hm
 refine bg 20 [(0, .ptr (some (bp0, 0)))] fun fr H => ?_
 refine aw_sr 1 ?_
 refine at_es 1 [] 1 H (fun _ => id) fun fr H => ?_
 refine at_el 1 [(3, .slice none 0)] H (fun _ => id) fun fr H => ?_
 refine aw_sq ?_
 refine aw_block (id := 0) (by kernel_rfl) ?_
 replace A : HH g h [.lst none 3 (lst (eI .i64) ([] : List Int)), _, _] F := A.nilL 3
 obtain ⟨o1, ho, hm⟩ := bind_some hm
 refine aw_mono (Q' := fun e fr' h' => (∃ x11 x12 x13 x14 x15 x16 x17 x18 x19 x20, e = .exit 0 ∧ (x11, x12, x13, x14, x15, x16, x17, x18, x19, x20) = o1 ∧ ∃ r3 r4, Has fr' 20 [(0, .ptr (some (bp0, 0))), (3, rowV r3 x11.length)] ∧ HH g h' [.lst r3 3 (lst (eI .i64) x11), .obj bp0 (.cells none 2 [.str x12, .int .i64 x13, .bool x14, rowV r4 x20.length, .int .i64 x15, .int .i64 x16, .int .i64 x17, .int .i64 x18, .bool x19]), .lst r4 68 (lst e_S_tree_Node x20)] F) ∨ False) ?_ ?_
 ·refine aw_loop (by kernel_rfl) (fun (s : (List Int) × (List UInt8) × Int × Bool × Int × Int × Int × Int × Bool × (List S_tree_Node)) fr' h' => ∃ x1 x2 x3 x4 x5 x6 x7 x8 x9 x10, (x1, x2, x3, x4, x5, x6, x7, x8, x9, x10) = s ∧ ∃ r1 r2, Has fr' 20 [(0, .ptr (some (bp0, 0))), (3, rowV r1 x1.length)] ∧ HH g h' [.lst r1 3 (lst (eI .i64) x1), .obj bp0 (.cells none 2 [.str x2, .int .i64 x3, .bool x4, rowV r2 x10.length, .int .i64 x5, .int .i64 x6, .int .i64 x7, .int .i64 x8, .bool x9]), .lst r2 68 (lst e_S_tree_Node x10)] F) ho ⟨_, _, _, _, _, _, _, _, _, _, rfl, none, rp0_3, H.ls, A⟩ ?_
  clear ho hm H A
  intro s q fr h1 hI hm
  obtain ⟨x1, x2, x3, x4, x5, x6, x7, x8, x9, x10, rfl, r1, r2, H, A⟩ := hI
  unfold M_rex_walk_expression_sPO_L0 at hm
  refine aw_block (id := 1) (by kernel_rfl) ?_
  refine aw_sr 6 ?_
  replace A := A.k3 1 2 0
  obtain ⟨⟨x21, x22, x23⟩, hx, hm⟩ := bind_some hm
  obtain ⟨v1, h2, hr, r5, rfl, A1⟩ := ok_rex_walk_branch_sPO (av := [.ptr (some (bp0, 0))]) hx (A.cut 2)
  replace A := A.g22 A1
  refine at_gc1 2 [(4, rowV r1 x1.length)] 6 hr H fun fr t H => ?_
  obtain ⟨h3, e1, A⟩ := A.pL 3 [.int .i64 x21]
  refine at_ln 7 (rowV (some h2.size) (([x21] : List Int).length)) e1 H fun fr t H => ?_
  obtain ⟨hb, hm⟩ := need_some hm
  obtain ⟨r6, h4, hx, A1⟩ := HH.appO (encI .i64) (by decide) A 3 (xs := x1) (ys := ([x21] : List Int)) rfl (row_first A 0 rfl (n := ([x21] : List Int).length) (z := 1) rfl (by decide)) rfl rfl hb
  replace A : HH g h4 [.lst (some h2.size) 3 ([.int .i64 x21]), _, _, .lst r6 3 (lst (eI .i64) (x1 ++ ([x21] : List Int)))] F := A1
  replace A := A.k3 1 2 3
  refine at_l1 8 _ _ H (fun fr => .of (s_app (s := rowS r1 x1.length) (by kernel_rfl) hx)) fun fr t H => ?_
  refine at_se 1 [(0, .ptr (some (bp0, 0))), (3, rowV r6 ((x1 ++ ([x21] : List Int)).length))] H fun fr H => ?_
  refine at_ns 8 id ?_
  obtain ⟨x24, hx, hm⟩ := bind_some hm
  obtain ⟨v1, h5, hr, rfl, A1⟩ := ok_rex_walk_ok_sPO (av := [.ptr (some (bp0, 0))]) hx (A.cut 2)
  replace A := A.g22 A1
  refine at_gc1 1 [] 10 hr H fun fr t H => ?_
  refine at_sl 2 [(12, .bool (!x24))] H fun fr H => ?_
  obtain ⟨⟨x25, x26, x27, x28, x29, x30, x31, x32, x33⟩, ho, hm⟩ := bind_some hm
  refine at_cl 4 (fun fr' h' => Has fr' 20 [(0, .ptr (some (bp0, 0))), (3, rowV r6 ((x1 ++ ([x21] : List Int)).length)), (16, .bool x33)] ∧ HH g h' [.obj bp0 (.cells none 2 [.str x25, .int .i64 x26, .bool x27, rowV r5 x23.length, .int .i64 x28, .int .i64 x29, .int .i64 x30, .int .i64 x31, .bool x32]), .lst r5 68 (lst e_S_tree_Node x23), .lst r6 3 (lst (eI .i64) (x1 ++ ([x21] : List Int)))] F) ?_ ?_
  ·rcases iteB_some ho with ⟨hb, hm⟩ | ⟨hb, hm⟩
   ·replace H := H.kn 12 hb
    refine at_sl 4 [(16, .bool true)] H fun fr H => ?_
    obtain ⟨rfl, rfl, rfl, rfl, rfl, rfl, rfl, rfl, rfl⟩ := inj9 hm
    exact at_nil ⟨H.ls, A⟩
   replace H := H.kn 12 hb
   obtain ⟨⟨x34, x35⟩, hx, hm⟩ := bind_some hm
   obtain ⟨v1, h7, hr, rfl, A1⟩ := ok_rex_walk_next_sPOS (av := [.ptr (some (bp0, 0)), .str ([124] : List UInt8)]) hx (A.cut 2)
   replace A := A.g22 A1
   refine at_gc1 1 [] 14 hr H fun fr t H => ?_
   refine at_sl 2 [(16, .bool (!x34))] H fun fr H => ?_
   obtain ⟨rfl, rfl, rfl, rfl, rfl, rfl, rfl, rfl, rfl⟩ := inj9 hm
   exact at_nil ⟨H.ls, A⟩
  clear A
  intro t fr h6 hK
  obtain ⟨H, A⟩ := hK
  refine at_nl id ?_
  refine aw_if 16 H hm (fun hb hm H => ?_) fun hb hm H => ?_
  ·refine aw_exit (i := 0) (by kernel_rfl) ?_
   replace A := A.k3 2 0 1
   exact nr hm fun e => .inl ⟨_, _, _, _, _, _, _, _, _, _, rfl, e, _, _, H.ls, A⟩
  refine aw_sk ?_
  replace A := A.k3 2 0 1
  exact nx hm ⟨_, _, _, _, _, _, _, _, _, _, rfl, _, _, H.ls, A⟩
 clear ho
 clear A
 intro e fr h8 hQ
 rcases hQ with ⟨x11, x12, x13, x14, x15, x16, x17, x18, x19, x20, rfl, rfl, r3, r4, H, A⟩ | hF
 ·show AW _ _ _ _ _ _ _
  refine aw_sr 4 ?_
  replace A := A.k3 1 2 0
  obtain ⟨⟨x36, x37, x38⟩, hx, hm⟩ := bind_some hm
  obtain ⟨v1, h9, hr, r7, rfl, A1⟩ := ok_rex_walk_nest_sPOIO (av := [.ptr (some (bp0, 0)), .int .i64 3, rowV r3 x11.length]) hx (A.cut 3)
  replace A := A.g33 A1
  refine at_gc1 2 [] 19 hr H fun fr t H => ?_
  refine at_el 1 [(2, .int .i64 x36)] H (fun _ => id) fun fr H => ?_
  refine aw_rt ?_
  obtain ⟨rfl, rfl, rfl⟩ := injC hm
  refine ⟨.inl rfl, .int .i64 x36, rH H, ?_⟩
  replace A := A.d2
  exact ⟨r7, rfl, A⟩
 exact hF.elim
noncomputable def M_rex_Parse (p0 : List UInt8) (p1 : Bool) : Option (S_tree_Tree × Int × Int) :=
 iteB (decide ((p0.length : Int) > (8192 : Int))) (some ((⟨([] : List S_tree_Node), (0 : Int)⟩ : S_tree_Tree), (0 : Int), (12 : Int))) ((M_rex_walk_expression_sPO (⟨p0, (0 : Int), p1, (⟨([] : List S_tree_Node), (0 : Int)⟩ : S_tree_Tree), (0 : Int), (0 : Int), (-1 : Int), false⟩ : S_rex_walk)).bind fun (x1, x2, x3) => ((M_rex_walk_ok_sPO (⟨x2.s_, x2.at_, x2.extended_, (⟨x3, x2.t_.Root⟩ : S_tree_Tree), x2.groups_, x2.depth_, x2.wrong_, x2.full_⟩ : S_rex_walk)).bind fun x12 => iteB (x12 && (decide (x2.at_ < (p0.length : Int)))) ((M_rex_walk_fail_sPOI (⟨x2.s_, x2.at_, x2.extended_, (⟨x3, x2.t_.Root⟩ : S_tree_Tree), x2.groups_, x2.depth_, x2.wrong_, x2.full_⟩ : S_rex_walk) x2.at_).bind fun x13 => some (x13.s_, x13.at_, x13.extended_, x13.t_.Root, x13.groups_, x13.depth_, x13.wrong_, x13.full_)) (some (x2.s_, x2.at_, x2.extended_, x2.t_.Root, x2.groups_, x2.depth_, x2.wrong_, x2.full_)) : Option (((List UInt8) × Int × Bool × Int × Int × Int × Int × Bool))).bind fun (x4, x5, x6, x7, x8, x9, x10, x11) => (M_rex_walk_ok_sPO (⟨x4, x5, x6, (⟨x3, x7⟩ : S_tree_Tree), x8, x9, x10, x11⟩ : S_rex_walk)).bind fun x14 => iteB (!x14) (some ((⟨([] : List S_tree_Node), (0 : Int)⟩ : S_tree_Tree), x10, (11 : Int))) (iteB x11 (some ((⟨([] : List S_tree_Node), (0 : Int)⟩ : S_tree_Tree), (0 : Int), (8 : Int))) (some ((⟨x3, x7⟩ : S_tree_Tree), (0 : Int), (0 : Int)))))
theorem ok_rex_Parse {p0 p1 q0 q1 q2} (hm : M_rex_Parse p0 p1 = some (q0, q1, q2)) (A : HH g h [] F) (hc : canL (cfg.still 11) av = [.str p0, .bool p1] := by kernel_rfl) : ∃ v h', Runs cfg g h 11 av v h' ∧ v = .tuple [.agg [vs e_S_tree_Node q0.Nodes, .int .i64 q0.Root], .int .i64 q1, .int .i64 q2] ∧ HH g h' [] F := by
 refine rq7 54 [.cell 4 26, .tmp 5, .tmp 6] hc ?_
 clear hc
 unfold M_rex_Parse at hm
 refine bg 54 [(0, .str p0), (1, .bool p1)] fun fr H => ?_
 refine aw_sr 3 ?_
 obtain ⟨h1, e1, A⟩ := A.pu (.cells none 2 [.slice none 0, .int .i64 0])
 refine at_ln 4 (.ptr (some (h.size, 0))) e1 H fun fr t H => ?_
 refine at_el 2 [] H (fun _ => id) fun fr H => ?_
 refine aw_sq ?_
 refine aw_sr 3 ?_
 refine at_el 3 [(10, .bool (decide ((p0.length : Int) > (8192 : Int))))] H (fun _ => id) fun fr H => ?_
 refine aw_if 10 H hm (fun hb hm H => ?_) fun hb hm H => ?_
 ·refine aw_sr 4 ?_
  obtain ⟨h2, hx, A⟩ := A.s0 0 [.slice none 0, .int .i64 0] [_, _]
  refine at_gS 1 [] hx H fun fr t H => ?_
  refine at_el 2 [(5, .int .i64 0), (6, .int .i64 12)] H (fun _ => id) fun fr H => ?_
  refine aw_rt ?_
  obtain ⟨rfl, rfl, rfl⟩ := injC hm
  refine ⟨.inl rfl, .tuple [.agg [.slice none 0, .int .i64 0], .int .i64 0, .int .i64 12], resL_many (.cell (rT H) (load_ldA (by kernel_rfl) (by kernel_rfl) (A.la 0 0 2)) (.tmp (rT H) (.tmp (rT H) .nil))), ?_⟩
  refine ⟨.tuple [.agg [vs e_S_tree_Node ([] : List S_tree_Node), .int .i64 0], .int .i64 0, .int .i64 12], h2, by first | rfl | (simp only [fz3T, fz3A, fz3B, fz3R, fz2A, fz2R, fz2V, fz2I, fz2B, fz2S, fz2N, fzL0, fzL1, fz1I, fz1B, fz1S, fz1V, fz1N, Option.map_some] <;> rfl), ?_⟩
  replace A := A.d0
  exact ⟨rfl, A⟩
 refine aw_ks 5 id ?_
 obtain ⟨h3, e2, A⟩ := A.pu (.cells none 2 [.str p0, .int .i64 0, .bool p1, .slice none 0, .int .i64 0, .int .i64 0, .int .i64 0, .int .i64 (-1), .bool false])
 refine at_gn 3 [] 15 (.ptr (some (h1.size, 0))) e2 H fun fr t H => ?_
 refine at_es 1 [(7, .ptr (some (h1.size, 0)))] 2 H (fun _ => id) fun fr H => ?_
 replace A : HH g h3 [.lst none 68 (lst e_S_tree_Node ([] : List S_tree_Node)), .obj h1.size (.cells none 2 [.str p0, .int .i64 0, .bool p1, rowV none (([] : List S_tree_Node).length), .int .i64 0, .int .i64 0, .int .i64 0, .int .i64 (-1), .bool false]), .obj h.size (.cells none 2 [.slice none 0, .int .i64 0])] F := A.nilL 68
 replace A := A.k3 1 0 2
 obtain ⟨⟨x1, x2, x3⟩, hx, hm⟩ := bind_some hm
 obtain ⟨v1, h4, hr, r1, rfl, A1⟩ := ok_rex_walk_expression_sPO (av := [.ptr (some (h1.size, 0))]) hx (A.cut 2)
 replace A := A.g22 A1
 refine at_gc0 1 [] hr H fun fr t H => ?_
 refine at_nl id ?_
 refine aw_sq ?_
 obtain ⟨o1, ho, hm⟩ := bind_some hm
 refine aw_mono (Q' := fun e fr' h' => (∃ x4 x5 x6 x7 x8 x9 x10 x11, e = .normal ∧ (x4, x5, x6, x7, x8, x9, x10, x11) = o1 ∧ Has fr' 54 [(4, .ptr (some (h.size, 0))), (7, .ptr (some (h1.size, 0)))] ∧ HH g h' [.obj h1.size (.cells none 2 [.str x4, .int .i64 x5, .bool x6, rowV r1 x3.length, .int .i64 x7, .int .i64 x8, .int .i64 x9, .int .i64 x10, .bool x11]), .lst r1 68 (lst e_S_tree_Node x3), .obj h.size (.cells none 2 [.slice none 0, .int .i64 0])] F) ∨ False) ?_ ?_
 ·replace hm := ho
  clear ho
  refine aw_sr 11 ?_
  obtain ⟨x12, hx, hm⟩ := bind_some hm
  obtain ⟨v1, h5, hr, rfl, A1⟩ := ok_rex_walk_ok_sPO (av := [.ptr (some (h1.size, 0))]) hx (A.cut 2)
  replace A := A.g22 A1
  refine at_gc1 1 [] 19 hr H fun fr t H => ?_
  refine at_sl 1 [(20, .bool x12)] H fun fr H => ?_
  refine at_cl 8 (fun fr' h' => h5 = h' ∧ Has fr' 54 [(4, .ptr (some (h.size, 0))), (7, .ptr (some (h1.size, 0))), (28, .bool (x12 && (decide (x2.at_ < (p0.length : Int)))))]) ?_ ?_
  ·cases hb : (x12 : Bool) with
   | true =>
    replace H := H.kn 20 hb
    refine at_gl 3 [] 24 0 1 A H fun fr t H => ?_
    refine at_sl 4 [(28, .bool (decide (x2.at_ < (p0.length : Int))))] H fun fr H => ?_
    exact at_zb H hb
   | false =>
    replace H := H.kn 20 hb
    refine at_sl 8 [(28, .bool false)] H fun fr H => ?_
    exact at_zb H hb
  intro t fr h' hK
  obtain ⟨e, H⟩ := hK
  subst e
  refine at_nl id ?_
  refine aw_if 28 H hm (fun hb hm H => ?_) fun hb hm H => ?_
  ·refine aw_rg 6 ?_
   refine at_gl 4 [(29, .ptr (some (h1.size, 0)))] 33 0 1 A H fun fr t H => ?_
   obtain ⟨x13, hx, hm⟩ := bind_some hm
   obtain ⟨v1, h6, hr, rfl, A1⟩ := ok_rex_walk_fail_sPOI (av := [.ptr (some (h1.size, 0)), .int .i64 x2.at_]) hx (A.cut 2)
   replace A := A.g22 A1
   refine at_lc0 hr H fun fr t H => ?_
   refine at_nil ?_
   exact .inl ⟨_, _, _, _, _, _, _, _, rfl, injA hm, H.ls, A⟩
  refine aw_sk ?_
  exact .inl ⟨_, _, _, _, _, _, _, _, rfl, injA hm, H.ls, A⟩
 clear ho
 clear A
 intro e fr h7 hQ
 rcases hQ with ⟨x4, x5, x6, x7, x8, x9, x10, x11, rfl, rfl, H, A⟩ | hF
 ·show AW _ _ _ _ _ _ _
  refine aw_sq ?_
  refine aw_block (id := 0) (by kernel_rfl) ?_
  refine aw_sr 4 ?_
  obtain ⟨x14, hx, hm⟩ := bind_some hm
  obtain ⟨v1, h8, hr, rfl, A1⟩ := ok_rex_walk_ok_sPO (av := [.ptr (some (h1.size, 0))]) hx (A.cut 2)
  replace A := A.g22 A1
  refine at_gc1 1 [] 37 hr H fun fr t H => ?_
  refine at_el 2 [(35, .bool (!x14))] H (fun _ => id) fun fr H => ?_
  refine aw_if 35 H hm (fun hb hm H => ?_) fun hb hm H => ?_
  ·refine aw_sq ?_
   refine aw_dw 8 8 [(0, []), (1, []), (2, []), (3, []), (4, []), (5, [4]), (6, []), (7, [])] ?_
   refine at_sl 4 [(39, .agg [.slice none 0, .int .i64 0]), (42, .ptr (some (h1.size, 7)))] H fun fr H => ?_
   refine at_t1 43 (.int .i64 x10) h8 [(4, h1.size)] (g.prot) H (fun fr => .of (s_ld (by kernel_rfl) (A.l1 0 7))) (fun fr H => ?_)
   replace A := A.k3 2 0 1
   have A1 := A.prot2 1 (pr := [h1.size]) (.cons 0 rfl (by simp [Ck.ids]) .nil)
   obtain ⟨h9, hx, A1⟩ := A1.st 0 rfl (o := 0) (new := [.slice none 0, .int .i64 0]) (ds := [.slice none 0, .int .i64 0]) (Nat.le_of_ble_eq_true rfl) rfl rfl
   replace A := A.p11 A1
   refine at_t0 (.tuple []) h9 [(4, h1.size)] (h1.size :: g.prot) H (fun fr => .of (s_stG (by kernel_rfl) (stG_st hx rfl))) (fun fr H => ?_)
   refine at_el 2 [(5, .int .i64 x10), (6, .int .i64 11)] H (fun _ => id) fun fr H => ?_
   refine aw_rt ?_
   obtain ⟨rfl, rfl, rfl⟩ := injC hm
   refine ⟨.inl rfl, .tuple [.agg [.slice none 0, .int .i64 0], .int .i64 x10, .int .i64 11], resL_many (.cell (rT H) (load_ldA (by kernel_rfl) (by kernel_rfl) (A.la 0 0 2)) (.tmp (rT H) (.tmp (rT H) .nil))), ?_⟩
   refine ⟨.tuple [.agg [vs e_S_tree_Node ([] : List S_tree_Node), .int .i64 0], .int .i64 x10, .int .i64 11], h9, by first | rfl | (simp only [fz3T, fz3A, fz3B, fz3R, fz2A, fz2R, fz2V, fz2I, fz2B, fz2S, fz2N, fzL0, fzL1, fz1I, fz1B, fz1S, fz1V, fz1N, Option.map_some] <;> rfl), ?_⟩
   replace A := A.d0
   exact ⟨rfl, A⟩
  refine aw_sr 5 ?_
  refine at_gl 3 [] 48 0 8 A H fun fr t H => ?_
  refine at_el 1 [(44, .bool x11)] H (fun _ => id) fun fr H => ?_
  refine aw_if 44 H hm (fun hb hm H => ?_) fun hb hm H => ?_
  ·refine aw_sr 4 ?_
   obtain ⟨h10, hx, A⟩ := A.s2 0 [.slice none 0, .int .i64 0] [_, _]
   refine at_gS 1 [] hx H fun fr t H => ?_
   refine at_el 2 [(5, .int .i64 0), (6, .int .i64 8)] H (fun _ => id) fun fr H => ?_
   refine aw_rt ?_
   obtain ⟨rfl, rfl, rfl⟩ := injC hm
   refine ⟨.inl rfl, .tuple [.agg [.slice none 0, .int .i64 0], .int .i64 0, .int .i64 8], resL_many (.cell (rT H) (load_ldA (by kernel_rfl) (by kernel_rfl) (A.la 2 0 2)) (.tmp (rT H) (.tmp (rT H) .nil))), ?_⟩
   refine ⟨.tuple [.agg [vs e_S_tree_Node ([] : List S_tree_Node), .int .i64 0], .int .i64 0, .int .i64 8], h10, by first | rfl | (simp only [fz3T, fz3A, fz3B, fz3R, fz2A, fz2R, fz2V, fz2I, fz2B, fz2S, fz2N, fzL0, fzL1, fz1I, fz1B, fz1S, fz1V, fz1N, Option.map_some] <;> rfl), ?_⟩
   replace A := A.d0
   exact ⟨rfl, A⟩
  refine aw_ks 7 id ?_
  refine at_g1 3 [] 53 _ _ H (fun fr => .of (s_ldA (by kernel_rfl) (A.ldA 0 rfl (o := 3) (n := 2) ⟨Nat.le_of_ble_eq_true rfl, rfl⟩))) fun fr t H => ?_
  obtain ⟨h11, hx, A⟩ := A.s2 0 [rowV r1 x3.length, .int .i64 x7] [_, _]
  refine at_lS hx H fun fr t H => ?_
  refine at_el 2 [(5, .int .i64 0), (6, .int .i64 0)] H (fun _ => id) fun fr H => ?_
  refine aw_rt ?_
  obtain ⟨rfl, rfl, rfl⟩ := injC hm
  refine ⟨.inl rfl, .tuple [.agg [rowV r1 x3.length, .int .i64 x7], .int .i64 0, .int .i64 0], resL_many (.cell (rT H) (load_ldA (by kernel_rfl) (by kernel_rfl) (A.la 2 0 2)) (.tmp (rT H) (.tmp (rT H) .nil))), ?_⟩
  obtain ⟨h12, hz0, A1⟩ := (A.front 1 rfl).frz (n := x3.length) (z := 10) (enc_S_tree_Node.lenL _) (by decide)
  replace A : HH g h12 [_, _] F := A1
  refine ⟨.tuple [.agg [vs e_S_tree_Node x3, .int .i64 x7], .int .i64 0, .int .i64 0], h12, by first | rfl | (simp only [fz3T, fz3A, fz3B, fz3R, fz2A, fz2R, fz2V, fz2I, fz2B, fz2S, fz2N, fzL0, fzL1, fz1I, fz1B, fz1S, fz1V, fz1N, Option.map_some, hz0] <;> rfl), ?_⟩
  replace A := A.d0
  exact ⟨rfl, A⟩
 exact hF.elim
noncomputable def M_auto_maker_lay_sPPOR (p0 : S_auto_maker) (p1 : S_auto_state) : Option (Int × S_auto_maker × (List S_auto_state)) :=
 iteB (p0.full_ || (decide ((p0.a_.l_.length : Int) ≥ p0.most_))) (some ((0 : Int), (⟨p0.t_, p0.a_, p0.most_, p0.full_ || (decide ((p0.a_.l_.length : Int) ≥ p0.most_))⟩ : S_auto_maker), p0.a_.l_)) (need (okN 56 (p0.a_.l_.length + ([p1] : List S_auto_state).length)) <| some (IntKind.i64.wrap (((p0.a_.l_ ++ ([p1] : List S_auto_state)).length : Int) - (1 : Int)), (⟨p0.t_, (⟨(p0.a_.l_ ++ ([p1] : List S_auto_state)), p0.a_.first_⟩ : S_auto_Auto), p0.most_, p0.full_ || (decide ((p0.a_.l_.length : Int) ≥ p0.most_))⟩ : S_auto_maker), (p0.a_.l_ ++ ([p1] : List S_auto_state))))
theorem ok_auto_maker_lay_sPPOR {p0 p1 bp0 bp0_2 rp0_2_0 q0 u0 u2} (hm : M_auto_maker_lay_sPPOR p0 p1 = some (q0, u0, u2)) (A : HH g h [.obj bp0 (.cells none 2 [vs e_S_tree_Node p0.t_.Nodes, .int .i64 p0.t_.Root, .ptr (some (bp0_2, 0)), .int .i64 p0.most_, .bool p0.full_]), .obj bp0_2 (.cells none 2 [rowV rp0_2_0 p0.a_.l_.length, .int .i64 p0.a_.first_]), .lst rp0_2_0 108 (lst e_S_auto_state p0.a_.l_)] F) (hc : canL (cfg.still 48) av = [.ptr (some (bp0, 0)), .agg (e_S_auto_state p1)] := by kernel_rfl) : ∃ v h', Runs cfg g h 48 av v h' ∧ ∃ (r'2 : Option Nat), v = .int .i64 q0 ∧ HH g h' [.obj bp0 (.cells none 2 [vs e_S_tree_Node u0.t_.Nodes, .int .i64 u0.t_.Root, .ptr (some (bp0_2, 0)), .int .i64 u0.most_, .bool u0.full_]), .obj bp0_2 (.cells none 2 [rowV r'2 u2.length, .int .i64 p0.a_.first_]), .lst r'2 108 (lst e_S_auto_state u2)] F := by
 refine rq1 56 [.tmp 4] hc ?_
 clear hc
 unfold M_auto_maker_lay_sPPOR at hm
 refine bg 56 [(0, .ptr (some (bp0, 0))), (1, .agg (e_S_auto_state p1))] fun fr H => ?_
 refine aw_sr 2 ?_
 obtain ⟨h1, e1, A⟩ := A.pu (.cells none 2 (e_S_auto_state p1))
 refine at_ln 3 (.ptr (some (h.size, 0))) e1 H fun fr t H => ?_
 refine at_el 1 [] H (fun _ => id) fun fr H => ?_
 refine aw_sq ?_
 refine aw_sq ?_
 refine aw_dg 1 23 ?_
 refine at_gl 4 [(5, .ptr (some (bp0, 0)))] 9 1 4 A H fun fr t H => ?_
 refine at_sl 1 [(10, .bool p0.full_)] H fun fr H => ?_
 refine at_cl 14 (fun fr' h' => h1 = h' ∧ Has fr' 56 [(0, .ptr (some (bp0, 0))), (3, .ptr (some (h.size, 0))), (5, .ptr (some (bp0, 0))), (24, .bool (p0.full_ || (decide ((p0.a_.l_.length : Int) ≥ p0.most_))))]) ?_ ?_
 ·cases hb : (p0.full_ : Bool) with
  | true =>
   replace H := H.kn 10 hb
   refine at_sl 14 [(24, .bool true)] H fun fr H => ?_
   exact at_zb H hb
  | false =>
   replace H := H.kn 10 hb
   refine at_gl 3 [] 14 1 2 A H fun fr t H => ?_
   refine at_gl 2 [] 17 2 0 A H fun fr t H => ?_
   refine at_gl 4 [(18, .int .i64 (p0.a_.l_.length : Int))] 22 1 3 A H fun fr t H => ?_
   refine at_sl 2 [(24, .bool (decide ((p0.a_.l_.length : Int) ≥ p0.most_)))] H fun fr H => ?_
   exact at_zb H hb
 intro t fr h' hK
 obtain ⟨e, H⟩ := hK
 subst e
 obtain ⟨h2, hx, A1⟩ := A.st 1 rfl (o := 4) (new := [.bool (p0.full_ || (decide ((p0.a_.l_.length : Int) ≥ p0.most_)))]) (ds := [vs e_S_tree_Node p0.t_.Nodes, .int .i64 p0.t_.Root, .ptr (some (bp0_2, 0)), .int .i64 p0.most_, .bool (p0.full_ || (decide ((p0.a_.l_.length : Int) ≥ p0.most_)))]) (Nat.le_of_ble_eq_true rfl) rfl rfl
 replace A : HH g h2 [.obj h.size (.cells none 2 (e_S_auto_state p1)), .obj bp0 (.cells none 2 [_, _, _, _, .bool (p0.full_ || (decide ((p0.a_.l_.length : Int) ≥ p0.most_)))]), _, _] F := A1
 refine at_gs 2 [] hx H fun fr t H => ?_
 refine at_ns 4 id ?_
 refine at_gl 3 [] 30 1 4 A H fun fr t H => ?_
 refine at_nl id ?_
 refine aw_if 30 H hm (fun hb hm H => ?_) fun hb hm H => ?_
 ·refine aw_sr 1 ?_
  refine at_el 1 [(4, .int .i64 0)] H (fun _ => id) fun fr H => ?_
  refine aw_rt ?_
  obtain ⟨rfl, rfl, rfl⟩ := injC hm
  refine ⟨.inl rfl, .int .i64 0, rH H, ?_⟩
  replace A := A.k3 1 2 3
  exact ⟨rp0_2_0, rfl, A⟩
 refine aw_kn id ?_
 refine aw_sq ?_
 refine aw_dw 4 17 [(0, []), (1, []), (2, []), (3, []), (4, []), (5, []), (6, []), (7, []), (8, []), (9, []), (10, []), (11, []), (12, []), (13, [3]), (14, []), (15, []), (16, [])] ?_
 refine at_sl 3 [(33, .ptr (some (bp0, 2)))] H fun fr H => ?_
 refine at_t1 34 (.ptr (some (bp0_2, 0))) h2 [(3, bp0)] (g.prot) H (fun fr => .of (s_ld (by kernel_rfl) (A.l1 1 2))) (fun fr H => ?_)
 refine at_sl 3 [(37, .ptr (some (bp0, 2)))] H fun fr H => ?_
 refine at_t1 38 (.ptr (some (bp0_2, 0))) h2 [(7, bp0), (3, bp0)] (g.prot) H (fun fr => .of (s_ld (by kernel_rfl) (A.l1 1 2))) (fun fr H => ?_)
 refine at_sl 2 [(40, .ptr (some (bp0_2, 0)))] H fun fr H => ?_
 refine at_t1 41 (rowV rp0_2_0 p0.a_.l_.length) h2 [(10, bp0_2), (7, bp0), (3, bp0)] (g.prot) H (fun fr => .of (s_ld (by kernel_rfl) (A.l1 2 0))) (fun fr H => ?_)
 refine at_t1 42 (.agg (e_S_auto_state p1)) h2 [(11, h.size), (10, bp0_2), (7, bp0), (3, bp0)] (g.prot) H (fun fr => .of (s_ldA (by kernel_rfl) (A.la 0 0 7))) (fun fr H => ?_)
 obtain ⟨h3, e2, A⟩ := A.pL 108 [.int .i64 p1.kind_, .int .i64 p1.a_, .int .i64 p1.b_, .int .u64 p1.set_.w0, .int .u64 p1.set_.w1, .int .u64 p1.set_.w2, .int .u64 p1.set_.w3]
 refine at_t1 43 (rowV (some h2.size) (([p1] : List S_auto_state).length)) h3 [(12, h2.size), (11, h.size), (10, bp0_2), (7, bp0), (3, bp0)] (g.prot) H (fun fr => .of (s_n' (by kernel_rfl) (congrArg some e2.symm))) (fun fr H => ?_)
 replace A : HH g h3 [_, .lst (some h2.size) 108 ([.int .i64 p1.kind_, .int .i64 p1.a_, .int .i64 p1.b_, .int .u64 p1.set_.w0, .int .u64 p1.set_.w1, .int .u64 p1.set_.w2, .int .u64 p1.set_.w3]), _, _, _] F := (A.front 4 rfl)
 have A1 := A.prot2 1 (pr := [bp0]) (.cons 2 rfl (by simp [Ck.ids]) .nil)
 obtain ⟨hb, hm⟩ := need_some hm
 obtain ⟨r1, h4, hx, A1⟩ := HH.appO enc_S_auto_state (by decide) A1 0 (xs := p0.a_.l_) (ys := ([p1] : List S_auto_state)) rfl (row_first A 1 rfl (n := ([p1] : List S_auto_state).length) (z := 7) rfl (by decide)) rfl rfl hb
 replace A := A.p11 A1
 replace A := A.k4 0 2 3 4
 refine at_t1 44 (rowV r1 ((p0.a_.l_ ++ ([p1] : List S_auto_state)).length)) h4 [(12, h2.size), (11, h.size), (10, bp0_2), (7, bp0), (3, bp0)] (bp0 :: g.prot) H (fun fr => .of (s_app (s := rowS rp0_2_0 p0.a_.l_.length) (by kernel_rfl) hx)) (fun fr H => ?_)
 refine at_sl 2 [(46, .ptr (some (bp0_2, 0)))] H fun fr H => ?_
 obtain ⟨h5, hx, A1⟩ := A.st 3 rfl (o := 0) (new := [rowV r1 ((p0.a_.l_ ++ ([p1] : List S_auto_state)).length)]) (ds := [rowV r1 ((p0.a_.l_ ++ ([p1] : List S_auto_state)).length), .int .i64 p0.a_.first_]) (Nat.le_of_ble_eq_true rfl) rfl rfl
 replace A : HH g h5 [_, _, _, .obj bp0_2 (.cells none 2 [rowV r1 ((p0.a_.l_ ++ ([p1] : List S_auto_state)).length), .int .i64 p0.a_.first_])] F := A1
 refine at_t0 (.tuple []) h5 [(12, h2.size), (11, h.size), (10, bp0_2), (7, bp0), (3, bp0)] (g.prot) H (fun fr => .of (s_st (by kernel_rfl) rfl hx)) (fun fr H => ?_)
 refine at_ns 10 id ?_
 refine at_gl 3 [] 50 2 2 A H fun fr t H => ?_
 refine at_gl 2 [] 53 3 0 A H fun fr t H => ?_
 refine at_el 3 [(4, .int .i64 (IntKind.i64.wrap (((p0.a_.l_ ++ ([p1] : List S_auto_state)).length : Int) - (1 : Int))))] H (fun _ => id) fun fr H => ?_
 refine aw_rt ?_
 obtain ⟨rfl, rfl, rfl⟩ := injC hm
 refine ⟨.inl rfl, .int .i64 (IntKind.i64.wrap (((p0.a_.l_ ++ ([p1] : List S_auto_state)).length : Int) - (1 : Int))), rH H, ?_⟩
 replace A := A.k3 2 3 0
 exact ⟨r1, rfl, A⟩
noncomputable def M_auto_maker_repeat_2_sIIPPPO (p0 : Int) (p1 : Int) (p2_0 : S_auto_maker) : Option (Int × S_auto_maker × (List S_auto_state)) :=
 (M_auto_maker_lay_sPPOR p2_0 (⟨(2 : Int), p0, p1, (⟨(0 : Int), (0 : Int), (0 : Int), (0 : Int)⟩ : A4_uint64)⟩ : S_auto_state)).bind fun (x1, x2, x3) => some (x1, (⟨x2.t_, (⟨x3, p2_0.a_.first_⟩ : S_auto_Auto), x2.most_, x2.full_⟩ : S_auto_maker), x3)
theorem ok_auto_maker_repeat_2_sIIPPPO {p0 p1 p2_0 bp2 bp2_0 bp2_0_2 rp2_0_2_0 q0 u1 u3} (hm : M_auto_maker_repeat_2_sIIPPPO p0 p1 p2_0 = some (q0, u1, u3)) (A : HH g h [.obj bp2 (.cells none 2 [.ptr (some (bp2_0, 0))]), .obj bp2_0 (.cells none 2 [vs e_S_tree_Node p2_0.t_.Nodes, .int .i64 p2_0.t_.Root, .ptr (some (bp2_0_2, 0)), .int .i64 p2_0.most_, .bool p2_0.full_]), .obj bp2_0_2 (.cells none 2 [rowV rp2_0_2_0 p2_0.a_.l_.length, .int .i64 p2_0.a_.first_]), .lst rp2_0_2_0 108 (lst e_S_auto_state p2_0.a_.l_)] F) (hc : canL (cfg.still 83) av = [.int .i64 p0, .int .i64 p1, .ptr (some (bp2, 0))] := by kernel_rfl) : ∃ v h', Runs cfg g h 83 av v h' ∧ ∃ (r'3 : Option Nat), v = .int .i64 q0 ∧ HH g h' [.obj bp2 (.cells none 2 [.ptr (some (bp2_0, 0))]), .obj bp2_0 (.cells none 2 [vs e_S_tree_Node u1.t_.Nodes, .int .i64 u1.t_.Root, .ptr (some (bp2_0_2, 0)), .int .i64 u1.most_, .bool u1.full_]), .obj bp2_0_2 (.cells none 2 [rowV r'3 u3.length, .int .i64 p2_0.a_.first_]), .lst r'3 108 (lst e_S_auto_state u3)] F := by
 refine rq1 11 [.tmp 5] hc ?_
 clear hc
 unfold M_auto_maker_repeat_2_sIIPPPO at hm
 refine bg 11 [(0, .int .i64 p0), (1, .int .i64 p1), (2, .ptr (some (bp2, 0)))] fun fr H => ?_
 refine aw_sr 1 ?_
 refine at_es 1 [] 6 H (fun _ => id) fun fr H => ?_
 refine at_ll 6 0 0 A H fun fr t H => ?_
 replace A := A.k4 1 2 3 0
 obtain ⟨⟨x1, x2, x3⟩, hx, hm⟩ := bind_some hm
 obtain ⟨v1, h1, hr, r1, rfl, A1⟩ := ok_auto_maker_lay_sPPOR (av := [.ptr (some (bp2_0, 0)), .agg [.int .i64 2, .int .i64 p0, .int .i64 p1, .int .u64 0, .int .u64 0, .int .u64 0, .int .u64 0]]) hx (A.cut 3)
 replace A := A.g33 A1
 refine at_gc1 3 [] 10 hr H fun fr t H => ?_
 refine at_el 1 [(5, .int .i64 x1)] H (fun _ => id) fun fr H => ?_
 refine aw_rt ?_
 obtain ⟨rfl, rfl, rfl⟩ := injC hm
 refine ⟨.inl rfl, .int .i64 x1, rH H, ?_⟩
 replace A := A.k4 3 0 1 2
 exact ⟨r1, rfl, A⟩
noncomputable def M_auto_Auto_close_sPVOBB_L0 (p0 : S_auto_Auto) (p2 : Bool) (p3 : Bool) (s : (List Int) × (List Bool)) : Option (((List Int) × (List Bool)) ⊕ (((List Bool)))) :=
 match s with
 | (x1, x2) => iteB (decide ((x1.length : Int) > (0 : Int))) ((ixV x1 (IntKind.i64.wrap ((x1.length : Int) - (1 : Int)))).bind fun x4 => (subV x1 none (some (IntKind.i64.wrap ((x1.length : Int) - (1 : Int))))).bind fun x5 => (ixV x2 x4).bind fun x6 => iteB x6 (some (.inl (x5, x2))) ((ixV x2 x4).bind fun x7 => (ixV p0.l_ x4).bind fun x8 => iteB (x8.kind_ == (2 : Int)) (need (okN 8 (x5.length + ([x8.a_, x8.b_] : List Int).length)) <| some (.inl ((x5 ++ ([x8.a_, x8.b_] : List Int)), (x2.set x4.toNat true)))) ((iteB ((x8.kind_ == (3 : Int)) && p2) (some true) (some ((x8.kind_ == (4 : Int)) && p3)) : Option ((Bool))).bind fun x9 => iteB x9 (need (okN 8 (x5.length + ([x8.a_] : List Int).length)) <| some (.inl ((x5 ++ ([x8.a_] : List Int)), (x2.set x4.toNat true)))) (some (.inl (x5, (x2.set x4.toNat true))))))) (some (.inr x2))
noncomputable def M_auto_Auto_close_sPVOBB_L1 (x3 : List Bool) (s : (List Int) × Int) : Option (((List Int) × Int) ⊕ (((List Int)))) :=
 match s with
 | (x10, x11) => iteB (decide (x11 < (x3.length : Int))) (((ixV x3 x11).bind fun x14 => iteB x14 (need (okN 8 (x10.length + ([x11] : List Int).length)) <| some (x10 ++ ([x11] : List Int))) (some x10) : Option (((List Int)))).bind fun x13 => some (.inl (x13, IntKind.i64.wrap (x11 + (1 : Int))))) (some (.inr x10))
noncomputable def M_auto_Auto_close_sPVOBB (p0 : S_auto_Auto) (p1 : List Int) (p2 : Bool) (p3 : Bool) : Option ((List Int)) :=
 need (mkN 1 (p0.l_.length : Int)) <| need (okN 8 p1.length) <| (loop (M_auto_Auto_close_sPVOBB_L0 p0 p2 p3) (p1, (List.replicate (p0.l_.length : Int).toNat false))).bind fun x3 => (loop (M_auto_Auto_close_sPVOBB_L1 x3) (([] : List Int), (0 : Int))).bind fun x12 => some x12
theorem ok_auto_Auto_close_sPVOBB {p0 p1 p2 p3 rp1 q0} (hm : M_auto_Auto_close_sPVOBB p0 p1 p2 p3 = some q0) (A : HH g h [.lst rp1 3 (lst (eI .i64) p1)] F) (hc : canL (cfg.still 52) av = [.vptr [vs e_S_auto_state p0.l_, .int .i64 p0.first_], rowV rp1 p1.length, .bool p2, .bool p3] := by kernel_rfl) : ∃ v h', Runs cfg g h 52 av v h' ∧ v = vs (eI .i64) q0 ∧ HH g h' [.lst rp1 3 (lst (eI .i64) p1)] F := by
 refine rq7 95 [.tmp 8] hc ?_
 clear hc
 unfold M_auto_Auto_close_sPVOBB at hm
 refine bg 95 [(0, .vptr [vs e_S_auto_state p0.l_, .int .i64 p0.first_]), (1, rowV rp1 p1.length), (2, .bool p2), (3, .bool p3)] fun fr H => ?_
 refine aw_sr 1 ?_
 refine at_es 1 [] 7 H (fun _ => id) fun fr H => ?_
 refine at_g1 3 [] 19 (vs e_S_auto_state p0.l_) h H (fun fr => .of (s_lv (by kernel_rfl))) fun fr t H => ?_
 obtain ⟨hb, hm⟩ := need_some hm
 obtain ⟨h1, e1, A⟩ := A.pL 4 (lst eB (List.replicate (p0.l_.length : Int).toNat false))
 refine at_g1 1 [] 21 (rowV (some h.size) (List.replicate (p0.l_.length : Int).toNat false).length) h1 H (fun fr => .of (s_mkO (e := eB) encB (x := false) (by kernel_rfl) hb (congrArg some e1.symm))) fun fr t H => ?_
 refine at_es 1 [(9, rowV (some h.size) ((List.replicate (p0.l_.length : Int).toNat false).length))] 3 H (fun _ => id) fun fr H => ?_
 replace A : HH g h1 [_, .lst (some h.size) 4 (lst eB (List.replicate (p0.l_.length : Int).toNat false))] F := (A.front 1 rfl)
 have A1 := A.cut 1
 obtain ⟨hb, hm⟩ := need_some hm
 obtain ⟨r1, h2, hr, A1⟩ := HH.clone (C := cfg) (f := 69) (a := 0) (t := 3) (xs := p1) (encI .i64) (by decide) A1 (by kernel_rfl) (l := exts) rfl (by kernel_rfl) (by kernel_rfl) rfl (HH.firstO (encI .i64) (by decide) A1 0 (xs := p1) rfl) ((encI .i64).canL _) hb
 replace A := A.g12 A1
 refine at_gc1 1 [] 23 hr H fun fr t H => ?_
 refine at_el 1 [(10, rowV r1 p1.length)] H (fun _ => id) fun fr H => ?_
 refine aw_sq ?_
 refine aw_block (id := 0) (by kernel_rfl) ?_
 replace A : HH g h2 [.lst r1 3 (lst (eI .i64) (p1 ++ [])), _, _] F := A.tl0 0 rfl
 obtain ⟨o1, ho, hm⟩ := bind_some hm
 refine aw_mono (Q' := fun e fr' h' => (∃ x3, e = .exit 0 ∧ x3 = o1 ∧ ∃ (hl2 : x3.length = (List.replicate (p0.l_.length : Int).toNat false).length), Has fr' 95 [(9, rowV (some h.size) x3.length)] ∧ HH g h' [.lst rp1 3 (lst (eI .i64) p1), .lst (some h.size) 4 (lst eB x3)] F) ∨ False) ?_ ?_
 ·refine aw_loop (by kernel_rfl) (fun (s : (List Int) × (List Bool)) fr' h' => ∃ x1 x2, (x1, x2) = s ∧ ∃ r2 tl1, ∃ (hl1 : x2.length = (List.replicate (p0.l_.length : Int).toNat false).length), Has fr' 95 [(0, .vptr [vs e_S_auto_state p0.l_, .int .i64 p0.first_]), (2, .bool p2), (3, .bool p3), (9, rowV (some h.size) x2.length), (10, rowV r2 x1.length)] ∧ HH g h' [.lst r2 3 (lst (eI .i64) (x1 ++ tl1)), .lst rp1 3 (lst (eI .i64) p1), .lst (some h.size) 4 (lst eB x2)] F) ho ⟨_, _, rfl, _, [], rfl, H.ls, A⟩ ?_
  clear ho hm H A
  intro s q fr h3 hI hm
  obtain ⟨x1, x2, rfl, r2, tl1, hl1, H, A⟩ := hI
  unfold M_auto_Auto_close_sPVOBB_L0 at hm
  refine aw_sq ?_
  refine aw_sr 3 ?_
  refine at_el 3 [(26, .bool (decide ((x1.length : Int) > (0 : Int))))] H (fun _ => id) fun fr H => ?_
  refine aw_if 26 H hm (fun hb hm H => ?_) fun hb hm H => ?_
  ·refine aw_kn id ?_
   refine aw_block (id := 1) (by kernel_rfl) ?_
   refine aw_sr 7 ?_
   obtain ⟨x4, hx, hm⟩ := bind_some hm
   obtain ⟨i1, er1, _, hx, hq1⟩ := HH.ixT (encI .i64) (by decide) A 0 (xs := x1) (tl := tl1) rfl hx
   refine at_g1 4 [] 31 (.ptr (some (i1, (IntKind.i64.wrap ((x1.length : Int) - (1 : Int))).toNat * 1))) h3 H (fun fr => .of (s_ixL (s := rowS r2 x1.length) (by kernel_rfl) hx)) fun fr t H => ?_
   refine at_l1 32 _ _ H (fun fr => .of (s_ld (by kernel_rfl) (row_ld1 (encI .i64) (HH.row A 0 rfl er1) hq1 (o := 0) rfl))) fun fr t H => ?_
   refine at_es 1 [(11, .int .i64 x4)] 6 H (fun _ => id) fun fr H => ?_
   obtain ⟨x5, hx, hm⟩ := bind_some hm
   have Aw1 := A
   obtain ⟨tl2, A1⟩ := HH.cutT A 0 (xs := x1) (tl := tl1) rfl hx
   replace A : HH g h3 [.lst r2 3 (lst (eI .i64) (x5 ++ tl2)), _, _] F := A1
   refine at_g1 4 [] 37 (rowV r2 x5.length) h3 H (fun fr => .of (s_subT (encI .i64) (by decide) Aw1 0 (xs := x1) (tl := tl1) (k' := .i64) rfl (by kernel_rfl) (by kernel_rfl) hx)) fun fr t H => ?_
   refine at_se 1 [(0, .vptr [vs e_S_auto_state p0.l_, .int .i64 p0.first_]), (2, .bool p2), (3, .bool p3), (9, rowV (some h.size) x2.length), (10, rowV r2 x5.length), (11, .int .i64 x4)] H fun fr H => ?_
   refine at_nl id ?_
   refine aw_sq ?_
   refine aw_sr 4 ?_
   obtain ⟨x6, hx, hm⟩ := bind_some hm
   obtain ⟨i2, er2, _, hx, hq2⟩ := HH.ixO encB (by decide) A 2 (xs := x2) rfl hx
   refine at_g1 2 [] 40 (.ptr (some (i2, x4.toNat * 1))) h3 H (fun fr => .of (s_ixL (s := rowS (some h.size) x2.length) (by kernel_rfl) hx)) fun fr t H => ?_
   refine at_l1 41 _ _ H (fun fr => .of (s_ld (by kernel_rfl) (row_ld1 encB (HH.row A 2 rfl er2) hq2 (o := 0) rfl))) fun fr t H => ?_
   refine at_nl id ?_
   refine aw_if 41 H hm (fun hb hm H => ?_) fun hb hm H => ?_
   ·refine aw_exit (i := 1) (by kernel_rfl) ?_
    exact nx hm ⟨_, _, rfl, _, tl2, hl1, H.ls, A⟩
   refine aw_ks 4 id ?_
   obtain ⟨x7, hx, hm⟩ := bind_some hm
   obtain ⟨i3, er3, _, hx, hq3⟩ := HH.ixO encB (by decide) A 2 (xs := x2) rfl hx
   refine at_g1 2 [] 44 (.ptr (some (i3, x4.toNat * 1))) h3 H (fun fr => .of (s_ixL (s := rowS (some h.size) x2.length) (by kernel_rfl) hx)) fun fr t H => ?_
   obtain ⟨h4, hx, A1⟩ := HH.stO encB A 2 rfl er3 hq3 (y := true) (o := 0) (new := [.bool true]) rfl rfl (Nat.le_of_ble_eq_true rfl)
   have hl3 : (x2.set x4.toNat true).length = (List.replicate (p0.l_.length : Int).toNat false).length := List.length_set.trans hl1
   have el : rowV (some h.size) x2.length = rowV (some h.size) (x2.set x4.toNat true).length := congrArg _ List.length_set.symm
   try rw [el] at H
   try rw [el] at A1
   replace A : HH g h4 [_, _, .lst (some h.size) 4 (lst eB (x2.set x4.toNat true))] F := A1
   refine at_ls hx H fun fr t H => ?_
   refine at_ns 9 id ?_
   refine at_g1 3 [] 48 (vs e_S_auto_state p0.l_) h4 H (fun fr => .of (s_lv (by kernel_rfl))) fun fr t H => ?_
   obtain ⟨x8, hx, hm⟩ := bind_some hm
   refine at_g1 1 [] 50 (.vptr (e_S_auto_state x8)) h4 H (fun fr => .of (s_ixV (e := e_S_auto_state) (x := x8) enc_S_auto_state (by decide) (by kernel_rfl) hx)) fun fr t H => ?_
   refine at_l1 51 (.agg (e_S_auto_state x8)) h4 H (fun fr => .of (s_lv (by kernel_rfl))) fun fr t H => ?_
   obtain ⟨h5, e2, A⟩ := A.pu (.cells none 2 [.int .i64 0, .int .i64 0, .int .i64 0, .int .u64 0, .int .u64 0, .int .u64 0, .int .u64 0])
   refine at_ln 12 (.ptr (some (h4.size, 0))) e2 H fun fr t H => ?_
   obtain ⟨h6, hx, A⟩ := A.s0 0 [.int .i64 x8.kind_, .int .i64 x8.a_, .int .i64 x8.b_, .int .u64 x8.set_.w0, .int .u64 x8.set_.w1, .int .u64 x8.set_.w2, .int .u64 x8.set_.w3] [_, _, _, _, _, _, _]
   refine at_lS hx H fun fr t H => ?_
   refine at_nl id ?_
   refine aw_block (id := 2) (by kernel_rfl) ?_
   refine aw_sr 4 ?_
   refine at_gl 1 [] 54 0 0 A H fun fr t H => ?_
   refine at_el 2 [(52, .bool (x8.kind_ == (2 : Int)))] H (fun _ => id) fun fr H => ?_
   refine aw_if 52 H hm (fun hb hm H => ?_) fun hb hm H => ?_
   ·refine aw_rg 8 ?_
    refine at_gl 2 [(56, rowV r2 x5.length)] 58 0 1 A H fun fr t H => ?_
    refine at_gl 1 [] 60 0 2 A H fun fr t H => ?_
    obtain ⟨h7, e3, A⟩ := A.pL 3 [.int .i64 x8.a_, .int .i64 x8.b_]
    refine at_ln 61 (rowV (some h6.size) (([x8.a_, x8.b_] : List Int).length)) e3 H fun fr t H => ?_
    obtain ⟨hb, hm⟩ := need_some hm
    obtain ⟨r3, tl3, h8, hx, A1⟩ := HH.appT (encI .i64) (by decide) A 2 (xs := x5) (tl := tl2) (ys := ([x8.a_, x8.b_] : List Int)) rfl (row_first A 0 rfl (n := ([x8.a_, x8.b_] : List Int).length) (z := 1) rfl (by decide)) rfl rfl hb
    replace A : HH g h8 [.lst (some h6.size) 3 ([.int .i64 x8.a_, .int .i64 x8.b_]), _, .lst r3 3 (lst (eI .i64) ((x5 ++ ([x8.a_, x8.b_] : List Int)) ++ tl3)), _, _] F := A1
    replace A := A.k4 1 2 3 4
    refine at_l1 62 _ _ H (fun fr => .of (s_app (s := rowS r2 x5.length) (by kernel_rfl) hx)) fun fr t H => ?_
    refine at_se 1 [(0, .vptr [vs e_S_auto_state p0.l_, .int .i64 p0.first_]), (2, .bool p2), (3, .bool p3), (9, rowV (some h.size) ((x2.set x4.toNat true).length)), (10, rowV r3 ((x5 ++ ([x8.a_, x8.b_] : List Int)).length))] H fun fr H => ?_
    refine at_nil ?_
    replace A := A.k3 1 2 3
    exact nx hm ⟨_, _, rfl, _, tl3, hl3, H.ls, A⟩
   refine aw_sq ?_
   obtain ⟨o2, ho, hm⟩ := bind_some hm
   refine aw_mono (Q' := fun e fr' h' => (∃ x9, e = .normal ∧ x9 = o2 ∧ Has fr' 95 [(0, .vptr [vs e_S_auto_state p0.l_, .int .i64 p0.first_]), (2, .bool p2), (3, .bool p3), (9, rowV (some h.size) ((x2.set x4.toNat true).length)), (10, rowV r2 x5.length), (12, .ptr (some (h4.size, 0))), (63, .bool x9)] ∧ HH g h' [.obj h4.size (.cells none 2 (e_S_auto_state x8)), .lst r2 3 (lst (eI .i64) (x5 ++ tl2)), .lst rp1 3 (lst (eI .i64) p1), .lst (some h.size) 4 (lst eB (x2.set x4.toNat true))] F) ∨ False) ?_ ?_
   ·replace hm := ho
    clear ho
    refine aw_sr 7 ?_
    refine at_gl 1 [] 65 0 0 A H fun fr t H => ?_
    refine at_sl 2 [(67, .bool (x8.kind_ == (3 : Int)))] H fun fr H => ?_
    refine at_cl 2 (fun fr' h' => h6 = h' ∧ Has fr' 95 [(0, .vptr [vs e_S_auto_state p0.l_, .int .i64 p0.first_]), (2, .bool p2), (3, .bool p3), (9, rowV (some h.size) ((x2.set x4.toNat true).length)), (10, rowV r2 x5.length), (12, .ptr (some (h4.size, 0))), (69, .bool ((x8.kind_ == (3 : Int)) && p2))]) ?_ ?_
    ·cases hb : (x8.kind_ == (3 : Int) : Bool) with
     | true =>
      replace H := H.kn 67 hb
      refine at_sl 2 [(69, .bool p2)] H fun fr H => ?_
      exact at_zb H hb
     | false =>
      replace H := H.kn 67 hb
      refine at_sl 2 [(69, .bool false)] H fun fr H => ?_
      exact at_zb H hb
    intro t fr h' hK
    obtain ⟨e, H⟩ := hK
    subst e
    refine at_el 1 [(63, .bool ((x8.kind_ == (3 : Int)) && p2))] H (fun _ => id) fun fr H => ?_
    refine aw_if 63 H hm (fun hb hm H => ?_) fun hb hm H => ?_
    ·refine aw_sk ?_
     exact .inl ⟨_, rfl, injA hm, H.ls, A⟩
    refine aw_rg 7 ?_
    refine at_gl 1 [] 71 0 0 A H fun fr t H => ?_
    refine at_sl 2 [(73, .bool (x8.kind_ == (4 : Int)))] H fun fr H => ?_
    refine at_cl 2 (fun fr' h' => h6 = h' ∧ Has fr' 95 [(0, .vptr [vs e_S_auto_state p0.l_, .int .i64 p0.first_]), (2, .bool p2), (3, .bool p3), (9, rowV (some h.size) ((x2.set x4.toNat true).length)), (10, rowV r2 x5.length), (12, .ptr (some (h4.size, 0))), (75, .bool ((x8.kind_ == (4 : Int)) && p3))]) ?_ ?_
    ·cases hb : (x8.kind_ == (4 : Int) : Bool) with
     | true =>
      replace H := H.kn 73 hb
      refine at_sl 2 [(75, .bool p3)] H fun fr H => ?_
      exact at_zb H hb
     | false =>
      replace H := H.kn 73 hb
      refine at_sl 2 [(75, .bool false)] H fun fr H => ?_
      exact at_zb H hb
    intro t fr h' hK
    obtain ⟨e, H⟩ := hK
    subst e
    refine at_sl 1 [(63, .bool ((x8.kind_ == (4 : Int)) && p3))] H fun fr H => ?_
    refine at_nil ?_
    exact .inl ⟨_, rfl, injA hm, H.ls, A⟩
   clear ho
   clear A
   intro e fr h9 hQ
   rcases hQ with ⟨x9, rfl, rfl, H, A⟩ | hF
   ·show AW _ _ _ _ _ _ _
    refine aw_if 63 H hm (fun hb hm H => ?_) fun hb hm H => ?_
    ·refine aw_rg 6 ?_
     refine at_gl 2 [(76, rowV r2 x5.length)] 78 0 1 A H fun fr t H => ?_
     obtain ⟨h10, e4, A⟩ := A.pL 3 [.int .i64 x8.a_]
     refine at_ln 79 (rowV (some h9.size) (([x8.a_] : List Int).length)) e4 H fun fr t H => ?_
     obtain ⟨hb, hm⟩ := need_some hm
     obtain ⟨r4, tl4, h11, hx, A1⟩ := HH.appT (encI .i64) (by decide) A 2 (xs := x5) (tl := tl2) (ys := ([x8.a_] : List Int)) rfl (row_first A 0 rfl (n := ([x8.a_] : List Int).length) (z := 1) rfl (by decide)) rfl rfl hb
     replace A : HH g h11 [.lst (some h9.size) 3 ([.int .i64 x8.a_]), _, .lst r4 3 (lst (eI .i64) ((x5 ++ ([x8.a_] : List Int)) ++ tl4)), _, _] F := A1
     replace A := A.k4 1 2 3 4
     refine at_l1 80 _ _ H (fun fr => .of (s_app (s := rowS r2 x5.length) (by kernel_rfl) hx)) fun fr t H => ?_
     refine at_se 1 [(0, .vptr [vs e_S_auto_state p0.l_, .int .i64 p0.first_]), (2, .bool p2), (3, .bool p3), (9, rowV (some h.size) ((x2.set x4.toNat true).length)), (10, rowV r4 ((x5 ++ ([x8.a_] : List Int)).length))] H fun fr H => ?_
     refine at_nil ?_
     replace A := A.k3 1 2 3
     exact nx hm ⟨_, _, rfl, _, tl4, hl3, H.ls, A⟩
    refine aw_sk ?_
    replace A := A.k3 1 2 3
    exact nx hm ⟨_, _, rfl, _, tl2, hl3, H.ls, A⟩
   exact hF.elim
  refine aw_exit (i := 0) (by kernel_rfl) ?_
  replace A := A.k2 1 2
  exact nr hm fun e => .inl ⟨_, rfl, e, hl1, H.ls, A⟩
 clear ho
 clear A
 intro e fr h12 hQ
 rcases hQ with ⟨x3, rfl, rfl, hl2, H, A⟩ | hF
 ·show AW _ _ _ _ _ _ _
  refine aw_sr 1 ?_
  refine at_el 1 [(13, .slice none 0)] H (fun _ => id) fun fr H => ?_
  refine aw_sq ?_
  refine aw_sr 3 ?_
  refine at_el 3 [(81, rowV (some h.size) x3.length), (82, .int .i64 (x3.length : Int)), (83, .int .i64 0)] H (fun _ => id) fun fr H => ?_
  refine aw_block (id := 3) (by kernel_rfl) ?_
  replace A : HH g h12 [.lst none 3 (lst (eI .i64) ([] : List Int)), _, _] F := A.nilL 3
  obtain ⟨o3, ho, hm⟩ := bind_some hm
  refine aw_mono (Q' := fun e fr' h' => (∃ x12, e = .exit 3 ∧ x12 = o3 ∧ ∃ r6, Has fr' 95 [(13, rowV r6 x12.length)] ∧ HH g h' [.lst r6 3 (lst (eI .i64) x12), .lst rp1 3 (lst (eI .i64) p1)] F) ∨ False) ?_ ?_
  ·refine aw_loop (by kernel_rfl) (fun (s : (List Int) × Int) fr' h' => ∃ x10 x11, (x10, x11) = s ∧ ∃ r5, Has fr' 95 [(13, rowV r5 x10.length), (81, rowV (some h.size) x3.length), (82, .int .i64 (x3.length : Int)), (83, .int .i64 x11)] ∧ HH g h' [.lst r5 3 (lst (eI .i64) x10), .lst rp1 3 (lst (eI .i64) p1), .lst (some h.size) 4 (lst eB x3)] F) ho ⟨_, _, rfl, none, H.ls, A⟩ ?_
   clear ho hm H A
   intro s q fr h13 hI hm
   obtain ⟨x10, x11, rfl, r5, H, A⟩ := hI
   unfold M_auto_Auto_close_sPVOBB_L1 at hm
   refine aw_sr 1 ?_
   refine at_el 1 [(84, .bool (decide (x11 < (x3.length : Int))))] H (fun _ => id) fun fr H => ?_
   refine aw_sq ?_
   refine aw_if 84 H hm (fun hb hm H => ?_) fun hb hm H => ?_
   ·refine aw_kn id ?_
    refine aw_sq ?_
    obtain ⟨o4, ho, hm⟩ := bind_some hm
    refine aw_mono (Q' := fun e fr' h' => (∃ x13, e = .normal ∧ x13 = o4 ∧ ∃ r7, Has fr' 95 [(13, rowV r7 x13.length), (81, rowV (some h.size) x3.length), (82, .int .i64 (x3.length : Int)), (83, .int .i64 x11)] ∧ HH g h' [.lst r7 3 (lst (eI .i64) x13), .lst rp1 3 (lst (eI .i64) p1), .lst (some h.size) 4 (lst eB x3)] F) ∨ False) ?_ ?_
    ·replace hm := ho
     clear ho
     refine aw_block (id := 4) (by kernel_rfl) ?_
     refine aw_sr 5 ?_
     obtain ⟨x14, hx, hm⟩ := bind_some hm
     obtain ⟨i4, er4, _, hx, hq4⟩ := HH.ixO encB (by decide) A 2 (xs := x3) rfl hx
     refine at_g1 1 [(85, .int .i64 x11)] 86 (.ptr (some (i4, x11.toNat * 1))) h13 H (fun fr => .of (s_ixL (s := rowS (some h.size) x3.length) (by kernel_rfl) hx)) fun fr t H => ?_
     refine at_l1 87 _ _ H (fun fr => .of (s_ld (by kernel_rfl) (row_ld1 encB (HH.row A 2 rfl er4) hq4 (o := 0) rfl))) fun fr t H => ?_
     refine at_es 2 [(14, .int .i64 x11), (15, .bool x14)] 1 H (fun _ => id) fun fr H => ?_
     refine at_el 1 [(88, .bool x14)] H (fun _ => id) fun fr H => ?_
     refine aw_if 88 H hm (fun hb hm H => ?_) fun hb hm H => ?_
     ·refine aw_rg 5 ?_
      refine at_sl 2 [(89, rowV r5 x10.length), (90, .int .i64 x11)] H fun fr H => ?_
      obtain ⟨h14, e5, A⟩ := A.pL 3 [.int .i64 x11]
      refine at_ln 91 (rowV (some h13.size) (([x11] : List Int).length)) e5 H fun fr t H => ?_
      obtain ⟨hb, hm⟩ := need_some hm
      obtain ⟨r8, h15, hx, A1⟩ := HH.appO (encI .i64) (by decide) A 1 (xs := x10) (ys := ([x11] : List Int)) rfl (row_first A 0 rfl (n := ([x11] : List Int).length) (z := 1) rfl (by decide)) rfl rfl hb
      replace A : HH g h15 [.lst (some h13.size) 3 ([.int .i64 x11]), .lst r8 3 (lst (eI .i64) (x10 ++ ([x11] : List Int))), _, _] F := A1
      replace A := A.k3 1 2 3
      refine at_l1 92 _ _ H (fun fr => .of (s_app (s := rowS r5 x10.length) (by kernel_rfl) hx)) fun fr t H => ?_
      refine at_se 1 [(13, rowV r8 ((x10 ++ ([x11] : List Int)).length)), (81, rowV (some h.size) x3.length), (82, .int .i64 (x3.length : Int)), (83, .int .i64 x11)] H fun fr H => ?_
      refine at_nil ?_
      exact .inl ⟨_, rfl, injA hm, _, H.ls, A⟩
     refine aw_sk ?_
     exact .inl ⟨_, rfl, injA hm, _, H.ls, A⟩
    clear ho
    clear A
    intro e fr h16 hQ
    rcases hQ with ⟨x13, rfl, rfl, r7, H, A⟩ | hF
    ·show AW _ _ _ _ _ _ _
     refine aw_rg 2 ?_
     refine at_se 2 [(13, rowV r7 x13.length), (81, rowV (some h.size) x3.length), (82, .int .i64 (x3.length : Int)), (83, .int .i64 (IntKind.i64.wrap (x11 + (1 : Int))))] H fun fr H => ?_
     refine at_nil ?_
     exact nx hm ⟨_, _, rfl, _, H.ls, A⟩
    exact hF.elim
   refine aw_exit (i := 3) (by kernel_rfl) ?_
   replace A := A.d2
   exact nr hm fun e => .inl ⟨_, rfl, e, _, H.ls, A⟩
  clear ho
  clear A
  intro e fr h17 hQ
  rcases hQ with ⟨x12, rfl, rfl, r6, H, A⟩ | hF
  ·show AW _ _ _ _ _ _ _
   refine aw_sr 2 ?_
   refine at_el 2 [(8, rowV r6 x12.length)] H (fun _ => id) fun fr H => ?_
   refine aw_rt ?_
   obtain rfl := injA hm
   refine ⟨.inl rfl, rowV r6 x12.length, rH H, ?_⟩
   obtain ⟨h18, hz0, A1⟩ := (A.front 0 rfl).frz (n := x12.length) (z := 1) ((encI .i64).lenL _) (by decide)
   replace A : HH g h18 [_] F := A1
   refine ⟨vs (eI .i64) x12, h18, by first | rfl | (simp only [fz3T, fz3A, fz3B, fz3R, fz2A, fz2R, fz2V, fz2I, fz2B, fz2S, fz2N, fzL0, fzL1, fz1I, fz1B, fz1S, fz1V, fz1N, Option.map_some, hz0] <;> rfl), ?_⟩
   exact ⟨rfl, A⟩
  exact hF.elim
 exact hF.elim
noncomputable def M_auto_Auto_Start (p0 : S_auto_Auto) (p1 : Bool) : Option ((List Int)) :=
 (M_auto_Auto_close_sPVOBB p0 ([p0.first_] : List Int) p1 false).bind fun x1 => some x1
theorem ok_auto_Auto_Start {p0 p1 q0} (hm : M_auto_Auto_Start p0 p1 = some q0) (A : HH g h [] F) (hc : canL (cfg.still 26) av = [.vptr [vs e_S_auto_state p0.l_, .int .i64 p0.first_], .bool p1] := by kernel_rfl) : ∃ v h', Runs cfg g h 26 av v h' ∧ v = vs (eI .i64) q0 ∧ HH g h' [] F := by
 refine rq1 13 [.tmp 4] hc ?_
 clear hc
 unfold M_auto_Auto_Start at hm
 refine bg 13 [(0, .vptr [vs e_S_auto_state p0.l_, .int .i64 p0.first_]), (1, .bool p1)] fun fr H => ?_
 refine aw_sr 1 ?_
 refine at_es 1 [] 9 H (fun _ => id) fun fr H => ?_
 refine at_g1 4 [(5, .vptr [vs e_S_auto_state p0.l_, .int .i64 p0.first_])] 9 (.int .i64 p0.first_) h H (fun fr => .of (s_lv (by kernel_rfl))) fun fr t H => ?_
 obtain ⟨h1, e1, A⟩ := A.pL 3 [.int .i64 p0.first_]
 refine at_ln 10 (rowV (some h.size) (([p0.first_] : List Int).length)) e1 H fun fr t H => ?_
 replace A : HH g h1 [.lst (some h.size) 3 (lst (eI .i64) ([p0.first_] : List Int))] F := A
 obtain ⟨x1, hx, hm⟩ := bind_some hm
 obtain ⟨v1, h2, hr, rfl, A1⟩ := ok_auto_Auto_close_sPVOBB (av := [.vptr [vs e_S_auto_state p0.l_, .int .i64 p0.first_], rowV (some h.size) (([p0.first_] : List Int).length), .bool p1, .bool false]) hx (A.cut 1)
 replace A := A.g11 A1
 refine at_gc1 1 [] 12 hr H fun fr t H => ?_
 refine at_el 1 [(4, vs (eI .i64) x1)] H (fun _ => id) fun fr H => ?_
 refine aw_rt ?_
 obtain rfl := injA hm
 refine ⟨.inl rfl, vs (eI .i64) x1, rH H, ?_⟩
 replace A := A.d0
 exact ⟨rfl, A⟩
noncomputable def M_auto_Auto_Step_L0 (p0 : S_auto_Auto) (p1 : List Int) (p2 : Int) (s : (List Int) × Int) : Option (((List Int) × Int) ⊕ (((List Int)))) :=
 match s with
 | (x1, x2) => iteB (decide (x2 < (p1.length : Int))) (((ixV p1 x2).bind fun x5 => (ixV p0.l_ x5).bind fun x6 => (iteB (x6.kind_ == (1 : Int)) ((M_class_Set_Has x6.set_ p2).bind fun x8 => some x8) (some false) : Option (Bool)).bind fun x7 => iteB x7 (need (okN 8 (x1.length + ([x6.a_] : List Int).length)) <| some (x1 ++ ([x6.a_] : List Int))) (some x1) : Option (((List Int)))).bind fun x4 => some (.inl (x4, IntKind.i64.wrap (x2 + (1 : Int))))) (some (.inr x1))
noncomputable def M_auto_Auto_Step (p0 : S_auto_Auto) (p1 : List Int) (p2 : Int) : Option ((List Int)) :=
 (loop (M_auto_Auto_Step_L0 p0 p1 p2) (([] : List Int), (0 : Int))).bind fun x3 => (M_auto_Auto_close_sPVOBB p0 x3 false false).bind fun x9 => some x9
theorem ok_auto_Auto_Step {p0 p1 p2 q0} (hm : M_auto_Auto_Step p0 p1 p2 = some q0) (A : HH g h [] F) (hc : canL (cfg.still 29) av = [.vptr [vs e_S_auto_state p0.l_, .int .i64 p0.first_], vs (eI .i64) p1, .int .u8 p2] := by kernel_rfl) : ∃ v h', Runs cfg g h 29 av v h' ∧ v = vs (eI .i64) q0 ∧ HH g h' [] F := by
 refine rq1 42 [.tmp 6] hc ?_
 clear hc
 unfold M_auto_Auto_Step at hm
 refine bg 42 [(0, .vptr [vs e_S_auto_state p0.l_, .int .i64 p0.first_]), (1, vs (eI .i64) p1), (2, .int .u8 p2)] fun fr H => ?_
 refine aw_sr 1 ?_
 refine at_es 1 [] 1 H (fun _ => id) fun fr H => ?_
 refine at_el 1 [(7, .slice none 0)] H (fun _ => id) fun fr H => ?_
 refine aw_sq ?_
 refine aw_sr 3 ?_
 refine at_el 3 [(11, vs (eI .i64) p1), (12, .int .i64 (p1.length : Int)), (13, .int .i64 0)] H (fun _ => id) fun fr H => ?_
 refine aw_block (id := 0) (by kernel_rfl) ?_
 replace A : HH g h [.lst none 3 (lst (eI .i64) ([] : List Int))] F := A.nilL 3
 obtain ⟨o1, ho, hm⟩ := bind_some hm
 refine aw_mono (Q' := fun e fr' h' => (∃ x3, e = .exit 0 ∧ x3 = o1 ∧ ∃ r2, Has fr' 42 [(0, .vptr [vs e_S_auto_state p0.l_, .int .i64 p0.first_]), (7, rowV r2 x3.length)] ∧ HH g h' [.lst r2 3 (lst (eI .i64) x3)] F) ∨ False) ?_ ?_
 ·refine aw_loop (by kernel_rfl) (fun (s : (List Int) × Int) fr' h' => ∃ x1 x2, (x1, x2) = s ∧ ∃ r1, Has fr' 42 [(0, .vptr [vs e_S_auto_state p0.l_, .int .i64 p0.first_]), (2, .int .u8 p2), (7, rowV r1 x1.length), (11, vs (eI .i64) p1), (12, .int .i64 (p1.length : Int)), (13, .int .i64 x2)] ∧ HH g h' [.lst r1 3 (lst (eI .i64) x1)] F) ho ⟨_, _, rfl, none, H.ls, A⟩ ?_
  clear ho hm H A
  intro s q fr h1 hI hm
  obtain ⟨x1, x2, rfl, r1, H, A⟩ := hI
  unfold M_auto_Auto_Step_L0 at hm
  refine aw_sr 1 ?_
  refine at_el 1 [(14, .bool (decide (x2 < (p1.length : Int))))] H (fun _ => id) fun fr H => ?_
  refine aw_sq ?_
  refine aw_if 14 H hm (fun hb hm H => ?_) fun hb hm H => ?_
  ·refine aw_kn id ?_
   refine aw_sq ?_
   obtain ⟨o2, ho, hm⟩ := bind_some hm
   refine aw_mono (Q' := fun e fr' h' => (∃ x4, e = .normal ∧ x4 = o2 ∧ ∃ r3, Has fr' 42 [(0, .vptr [vs e_S_auto_state p0.l_, .int .i64 p0.first_]), (2, .int .u8 p2), (7, rowV r3 x4.length), (11, vs (eI .i64) p1), (12, .int .i64 (p1.length : Int)), (13, .int .i64 x2)] ∧ HH g h' [.lst r3 3 (lst (eI .i64) x4)] F) ∨ False) ?_ ?_
   ·replace hm := ho
    clear ho
    refine aw_block (id := 1) (by kernel_rfl) ?_
    refine aw_sr 3 ?_
    obtain ⟨x5, hx, hm⟩ := bind_some hm
    refine at_l1 15 (.vptr [.int .i64 x5]) h1 H (fun fr => .of (s_ixV (e := (eI .i64)) (x := x5) (encI .i64) (by decide) (by kernel_rfl) hx)) fun fr t H => ?_
    refine at_l1 16 (.int .i64 x5) h1 H (fun fr => .of (s_lv (by kernel_rfl))) fun fr t H => ?_
    refine at_es 1 [(9, .int .i64 x5)] 9 H (fun _ => id) fun fr H => ?_
    refine at_g1 3 [] 20 (vs e_S_auto_state p0.l_) h1 H (fun fr => .of (s_lv (by kernel_rfl))) fun fr t H => ?_
    obtain ⟨x6, hx, hm⟩ := bind_some hm
    refine at_g1 1 [] 22 (.vptr (e_S_auto_state x6)) h1 H (fun fr => .of (s_ixV (e := e_S_auto_state) (x := x6) enc_S_auto_state (by decide) (by kernel_rfl) hx)) fun fr t H => ?_
    refine at_l1 23 (.agg (e_S_auto_state x6)) h1 H (fun fr => .of (s_lv (by kernel_rfl))) fun fr t H => ?_
    obtain ⟨h2, e1, A⟩ := A.pu (.cells none 2 [.int .i64 0, .int .i64 0, .int .i64 0, .int .u64 0, .int .u64 0, .int .u64 0, .int .u64 0])
    refine at_ln 10 (.ptr (some (h1.size, 0))) e1 H fun fr t H => ?_
    obtain ⟨h3, hx, A⟩ := A.s0 0 [.int .i64 x6.kind_, .int .i64 x6.a_, .int .i64 x6.b_, .int .u64 x6.set_.w0, .int .u64 x6.set_.w1, .int .u64 x6.set_.w2, .int .u64 x6.set_.w3] [_, _, _, _, _, _, _]
    refine at_lS hx H fun fr t H => ?_
    refine at_ns 9 id ?_
    refine at_gl 1 [] 25 0 0 A H fun fr t H => ?_
    refine at_sl 2 [(27, .bool (x6.kind_ == (1 : Int)))] H fun fr H => ?_
    obtain ⟨x7, ho, hm⟩ := bind_some hm
    refine at_cl 5 (fun fr' h' => Has fr' 42 [(0, .vptr [vs e_S_auto_state p0.l_, .int .i64 p0.first_]), (2, .int .u8 p2), (7, rowV r1 x1.length), (10, .ptr (some (h1.size, 0))), (11, vs (eI .i64) p1), (12, .int .i64 (p1.length : Int)), (13, .int .i64 x2), (32, .bool x7)] ∧ HH g h' [.obj h1.size (.cells none 2 (e_S_auto_state x6)), .lst r1 3 (lst (eI .i64) x1)] F) ?_ ?_
    ·rcases iteB_some ho with ⟨hb, hm⟩ | ⟨hb, hm⟩
     ·replace H := H.kn 27 hb
      refine at_g1 1 [] 29 _ _ H (fun fr => .of (s_ldA (by kernel_rfl) (A.ldA 0 rfl (o := 3) (n := 4) ⟨Nat.le_of_ble_eq_true rfl, rfl⟩))) fun fr t H => ?_
      obtain ⟨x8, hx, hm⟩ := bind_some hm
      obtain ⟨v1, h5, hr, rfl, A1⟩ := ok_class_Set_Has (av := [.agg [.int .u64 x6.set_.w0, .int .u64 x6.set_.w1, .int .u64 x6.set_.w2, .int .u64 x6.set_.w3], .int .u8 p2]) hx (A.cut 0)
      replace A := A.g00 A1
      refine at_gc1 1 [] 31 hr H fun fr t H => ?_
      refine at_sl 1 [(32, .bool x8)] H fun fr H => ?_
      obtain rfl := injA hm
      exact at_nil ⟨H.ls, A⟩
     replace H := H.kn 27 hb
     refine at_sl 5 [(32, .bool false)] H fun fr H => ?_
     obtain rfl := injA hm
     exact at_nil ⟨H.ls, A⟩
    clear A
    intro t fr h4 hK
    obtain ⟨H, A⟩ := hK
    refine at_nl id ?_
    refine aw_if 32 H hm (fun hb hm H => ?_) fun hb hm H => ?_
    ·refine aw_rg 6 ?_
     refine at_gl 2 [(33, rowV r1 x1.length)] 35 0 1 A H fun fr t H => ?_
     obtain ⟨h6, e2, A⟩ := A.pL 3 [.int .i64 x6.a_]
     refine at_ln 36 (rowV (some h4.size) (([x6.a_] : List Int).length)) e2 H fun fr t H => ?_
     obtain ⟨hb, hm⟩ := need_some hm
     obtain ⟨r4, h7, hx, A1⟩ := HH.appO (encI .i64) (by decide) A 2 (xs := x1) (ys := ([x6.a_] : List Int)) rfl (row_first A 0 rfl (n := ([x6.a_] : List Int).length) (z := 1) rfl (by decide)) rfl rfl hb
     replace A : HH g h7 [.lst (some h4.size) 3 ([.int .i64 x6.a_]), _, .lst r4 3 (lst (eI .i64) (x1 ++ ([x6.a_] : List Int)))] F := A1
     replace A := A.k2 1 2
     refine at_l1 37 _ _ H (fun fr => .of (s_app (s := rowS r1 x1.length) (by kernel_rfl) hx)) fun fr t H => ?_
     refine at_se 1 [(0, .vptr [vs e_S_auto_state p0.l_, .int .i64 p0.first_]), (2, .int .u8 p2), (7, rowV r4 ((x1 ++ ([x6.a_] : List Int)).length)), (11, vs (eI .i64) p1), (12, .int .i64 (p1.length : Int)), (13, .int .i64 x2)] H fun fr H => ?_
     refine at_nil ?_
     replace A := A.k1 1
     exact .inl ⟨_, rfl, injA hm, _, H.ls, A⟩
    refine aw_sk ?_
    replace A := A.k1 1
    exact .inl ⟨_, rfl, injA hm, _, H.ls, A⟩
   clear ho
   clear A
   intro e fr h8 hQ
   rcases hQ with ⟨x4, rfl, rfl, r3, H, A⟩ | hF
   ·show AW _ _ _ _ _ _ _
    refine aw_rg 2 ?_
    refine at_se 2 [(0, .vptr [vs e_S_auto_state p0.l_, .int .i64 p0.first_]), (2, .int .u8 p2), (7, rowV r3 x4.length), (11, vs (eI .i64) p1), (12, .int .i64 (p1.length : Int)), (13, .int .i64 (IntKind.i64.wrap (x2 + (1 : Int))))] H fun fr H => ?_
    refine at_nil ?_
    exact nx hm ⟨_, _, rfl, _, H.ls, A⟩
   exact hF.elim
  refine aw_exit (i := 0) (by kernel_rfl) ?_
  exact nr hm fun e => .inl ⟨_, rfl, e, _, H.ls, A⟩
 clear ho
 clear A
 intro e fr h9 hQ
 rcases hQ with ⟨x3, rfl, rfl, r2, H, A⟩ | hF
 ·show AW _ _ _ _ _ _ _
  refine aw_sr 4 ?_
  obtain ⟨x9, hx, hm⟩ := bind_some hm
  obtain ⟨v1, h10, hr, rfl, A1⟩ := ok_auto_Auto_close_sPVOBB (av := [.vptr [vs e_S_auto_state p0.l_, .int .i64 p0.first_], rowV r2 x3.length, .bool false, .bool false]) hx (A.cut 1)
  replace A := A.g11 A1
  refine at_gc1 2 [] 41 hr H fun fr t H => ?_
  refine at_el 1 [(6, vs (eI .i64) x9)] H (fun _ => id) fun fr H => ?_
  refine aw_rt ?_
  obtain rfl := injA hm
  refine ⟨.inl rfl, vs (eI .i64) x9, rH H, ?_⟩
  replace A := A.d0
  exact ⟨rfl, A⟩
 exact hF.elim
noncomputable def M_dfa_Dfa_States (p0 : S_dfa_Dfa) : Option (Int) :=
 some (p0.ends_.length : Int)
theorem ok_dfa_Dfa_States {p0 q0} (hm : M_dfa_Dfa_States p0 = some q0) (A : HH g h [] F) (hc : canL (cfg.still 35) av = [.vptr (big 256 (AVal.int .u8) p0.column_ ++ [.int .i64 p0.columns_, vs (eI .i32) p0.next_, vs eB p0.ends_, vs eB p0.last_, .int .i32 p0.first_, .int .i32 p0.later_, .bool p0.empty_])] := by kernel_rfl) : ∃ v h', Runs cfg g h 35 av v h' ∧ v = .int .i64 q0 ∧ HH g h' [] F := by
 refine rq1 8 [.tmp 2] hc ?_
 clear hc
 unfold M_dfa_Dfa_States at hm
 refine bg 8 [(0, .vptr (big 256 (AVal.int .u8) p0.column_ ++ [.int .i64 p0.columns_, vs (eI .i32) p0.next_, vs eB p0.ends_, vs eB p0.last_, .int .i32 p0.first_, .int .i32 p0.later_, .bool p0.empty_]))] fun fr H => ?_
 refine aw_sr 1 ?_
 refine at_es 1 [] 6 H (fun _ => id) fun fr H => ?_
 refine at_g1 3 [] 6 (vs eB p0.ends_) h H (fun fr => .of (s_lv (by kernel_rfl))) fun fr t H => ?_
 refine at_el 2 [(2, .int .i64 (p0.ends_.length : Int))] H (fun _ => id) fun fr H => ?_
 refine aw_rt ?_
 obtain rfl := injA hm
 exact ⟨.inl rfl, _, rH H, rfl, A⟩
end Go.Av.L
