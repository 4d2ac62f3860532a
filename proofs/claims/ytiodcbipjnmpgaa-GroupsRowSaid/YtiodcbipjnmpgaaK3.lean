/-
  Models of functions, and that the abstract run tells them. Written by lift2.py.
-/
import Derived.Test.YtiodcbipjnmpgaaKCfg
import Derived.Test.YtiodcbipjnmpgaaK0
import Derived.Test.YtiodcbipjnmpgaaK1
import Derived.Test.YtiodcbipjnmpgaaK2
namespace Go.Av.L
open Go.Av Go.Lib
set_option maxRecDepth 10000
set_option linter.unusedVariables false
set_option linter.unusedSimpArgs false
variable {g : Gd} {h : AHeap} {F : List Ck} {av : List AVal}
noncomputable section
structure SC_rex_walk_group_sPO where
 M_rex_walk_group_sPO : S_rex_walk → Option (Int × S_rex_walk × (List S_tree_Node))
 M_rex_walk_expression_sPO : S_rex_walk → Option (Int × S_rex_walk × (List S_tree_Node))
 M_rex_walk_branch_sPO : S_rex_walk → Option (Int × S_rex_walk × (List S_tree_Node))
 M_rex_walk_atom_sPO : S_rex_walk → Option (Int × S_rex_walk × (List S_tree_Node))
structure OkSC_rex_walk_group_sPO (S : SC_rex_walk_group_sPO) : Prop where
 ok_rex_walk_group_sPO : ∀ {g : Gd} {h : AHeap} {F : List Ck} {p0 : S_rex_walk} {bp0 : Nat} {rp0_3 : Option Nat} {q0 : Int} {u0 : S_rex_walk} {u1 : List S_tree_Node} {av : List AVal} (hm : S.M_rex_walk_group_sPO p0 = some (q0, u0, u1)) (hc : canL (cfg.still 95) av = [.ptr (some (bp0, 0))]) (A : HH g h [.obj bp0 (.cells none 2 (w_rex_walk_3 p0 (rowV rp0_3 p0.t_.Nodes.length))), .lst rp0_3 68 (lst e_S_tree_Node p0.t_.Nodes)] F), ∃ v h', Runs cfg g h 95 av v h' ∧ ∃ (r'1 : Option Nat), v = Ai q0 ∧ HH g h' [.obj bp0 (.cells none 2 (w_rex_walk_3 u0 (rowV r'1 u1.length))), .lst r'1 68 (lst e_S_tree_Node u1)] F
 ok_rex_walk_expression_sPO : ∀ {g : Gd} {h : AHeap} {F : List Ck} {p0 : S_rex_walk} {bp0 : Nat} {rp0_3 : Option Nat} {q0 : Int} {u0 : S_rex_walk} {u1 : List S_tree_Node} {av : List AVal} (hm : S.M_rex_walk_expression_sPO p0 = some (q0, u0, u1)) (hc : canL (cfg.still 36) av = [.ptr (some (bp0, 0))]) (A : HH g h [.obj bp0 (.cells none 2 (w_rex_walk_3 p0 (rowV rp0_3 p0.t_.Nodes.length))), .lst rp0_3 68 (lst e_S_tree_Node p0.t_.Nodes)] F), ∃ v h', Runs cfg g h 36 av v h' ∧ ∃ (r'1 : Option Nat), v = Ai q0 ∧ HH g h' [.obj bp0 (.cells none 2 (w_rex_walk_3 u0 (rowV r'1 u1.length))), .lst r'1 68 (lst e_S_tree_Node u1)] F
 ok_rex_walk_branch_sPO : ∀ {g : Gd} {h : AHeap} {F : List Ck} {p0 : S_rex_walk} {bp0 : Nat} {rp0_3 : Option Nat} {q0 : Int} {u0 : S_rex_walk} {u1 : List S_tree_Node} {av : List AVal} (hm : S.M_rex_walk_branch_sPO p0 = some (q0, u0, u1)) (hc : canL (cfg.still 56) av = [.ptr (some (bp0, 0))]) (A : HH g h [.obj bp0 (.cells none 2 (w_rex_walk_3 p0 (rowV rp0_3 p0.t_.Nodes.length))), .lst rp0_3 68 (lst e_S_tree_Node p0.t_.Nodes)] F), ∃ v h', Runs cfg g h 56 av v h' ∧ ∃ (r'1 : Option Nat), v = Ai q0 ∧ HH g h' [.obj bp0 (.cells none 2 (w_rex_walk_3 u0 (rowV r'1 u1.length))), .lst r'1 68 (lst e_S_tree_Node u1)] F
 ok_rex_walk_atom_sPO : ∀ {g : Gd} {h : AHeap} {F : List Ck} {p0 : S_rex_walk} {bp0 : Nat} {rp0_3 : Option Nat} {q0 : Int} {u0 : S_rex_walk} {u1 : List S_tree_Node} {av : List AVal} (hm : S.M_rex_walk_atom_sPO p0 = some (q0, u0, u1)) (hc : canL (cfg.still 77) av = [.ptr (some (bp0, 0))]) (A : HH g h [.obj bp0 (.cells none 2 (w_rex_walk_3 p0 (rowV rp0_3 p0.t_.Nodes.length))), .lst rp0_3 68 (lst e_S_tree_Node p0.t_.Nodes)] F), ∃ v h', Runs cfg g h 77 av v h' ∧ ∃ (r'1 : Option Nat), v = Ai q0 ∧ HH g h' [.obj bp0 (.cells none 2 (w_rex_walk_3 u0 (rowV r'1 u1.length))), .lst r'1 68 (lst e_S_tree_Node u1)] F
def B_rex_walk_group_sPO (S : SC_rex_walk_group_sPO) (p0 : S_rex_walk) : Option (Int × S_rex_walk × (List S_tree_Node)) :=
 (iteB (decide ((IntKind.i64.wrap (p0.groups_ + 1)) > 1024)) (some true) (some p0.full_) : Option ((Bool))).bind fun x1 => (S.M_rex_walk_expression_sPO (⟨p0.s_, p0.at_, p0.extended_, p0.t_, IntKind.i64.wrap (p0.groups_ + 1), IntKind.i64.wrap (p0.depth_ + 1), p0.wrong_, x1⟩ : S_rex_walk)).bind fun (x2, x3, x4) => ((M_rex_walk_ok_sPO (⟨x3.s_, x3.at_, x3.extended_, (⟨x4, x3.t_.Root⟩ : S_tree_Tree), x3.groups_, IntKind.i64.wrap (x3.depth_ - 1), x3.wrong_, x3.full_⟩ : S_rex_walk)).bind fun x13 => (iteB x13 ((M_rex_walk_next_sPOS (⟨x3.s_, x3.at_, x3.extended_, (⟨x4, x3.t_.Root⟩ : S_tree_Tree), x3.groups_, IntKind.i64.wrap (x3.depth_ - 1), x3.wrong_, x3.full_⟩ : S_rex_walk) ([41] : List UInt8)).bind fun (x23, x24) => some (x24.s_, x24.at_, x24.extended_, x24.t_.Root, x24.groups_, x24.depth_, x24.wrong_, x24.full_, !x23)) (some (x3.s_, x3.at_, x3.extended_, x3.t_.Root, x3.groups_, IntKind.i64.wrap (x3.depth_ - 1), x3.wrong_, x3.full_, false)) : Option ((List UInt8) × Int × Bool × Int × Int × Int × Int × Bool × Bool)).bind fun (x14, x15, x16, x17, x18, x19, x20, x21, x22) => iteB x22 ((M_rex_walk_fail_sPOI (⟨x14, x15, x16, (⟨x4, x17⟩ : S_tree_Tree), x18, x19, x20, x21⟩ : S_rex_walk) (x14.length : Int)).bind fun x25 => some (x25.s_, x25.at_, x25.extended_, x25.t_.Root, x25.groups_, x25.depth_, x25.wrong_, x25.full_)) (some (x14, x15, x16, x17, x18, x19, x20, x21)) : Option (((List UInt8) × Int × Bool × Int × Int × Int × Int × Bool))).bind fun (x5, x6, x7, x8, x9, x10, x11, x12) => (M_rex_walk_add_sPOR (⟨x5, x6, x7, (⟨x4, x8⟩ : S_tree_Tree), x9, x10, x11, x12⟩ : S_rex_walk) (⟨(5 : Int), x2, (0 : Int), (0 : Int), (0 : Int), mn (IntKind.i64.wrap (p0.groups_ + 1)) (1024 : Int), (⟨(0 : Int), (0 : Int), (0 : Int), (0 : Int)⟩ : A4_uint64)⟩ : S_tree_Node)).bind fun (x26, x27, x28) => some (x26, (⟨x27.s_, x27.at_, x27.extended_, (⟨x28, x27.t_.Root⟩ : S_tree_Tree), x27.groups_, x27.depth_, x27.wrong_, x27.full_⟩ : S_rex_walk), x28)
theorem okB_rex_walk_group_sPO {S : SC_rex_walk_group_sPO} (hS : OkSC_rex_walk_group_sPO S) {p0 bp0 rp0_3 q0 u0 u1} (hm : B_rex_walk_group_sPO S p0 = some (q0, u0, u1)) (hc : canL (cfg.still 95) av = [.ptr (some (bp0, 0))]) (A : HH g h [.obj bp0 (.cells none 2 (w_rex_walk_3 p0 (rowV rp0_3 p0.t_.Nodes.length))), .lst rp0_3 68 (lst e_S_tree_Node p0.t_.Nodes)] F) : ∃ v h', Runs cfg g h 95 av v h' ∧ ∃ (r'1 : Option Nat), v = Ai q0 ∧ HH g h' [.obj bp0 (.cells none 2 (w_rex_walk_3 u0 (rowV r'1 u1.length))), .lst r'1 68 (lst e_S_tree_Node u1)] F := by
 refine rq1 57 [.tmp 2] hc ?_
 clear hc
 unfold B_rex_walk_group_sPO at hm
 refine bg 57 [(0, .ptr (some (bp0, 0)))] fun fr H => ?_
 refine aw_sr 1 (at_S 1 [] 8 H fun fr H => at_gl 3 [(5, .ptr (some (bp0, 0)))] 8 0 5 A H fun fr t H => ?_)
 obtain ⟨h1, hx, A⟩ := A.s0 5 [Ai (IntKind.i64.wrap (p0.groups_ + 1))] [_, _, _, _, _, _, _, _, _]
 refine at_gs 3 [] hx H fun fr t H => ?_
 refine at_ns 5 id (at_gl 3 [] 15 0 5 A H fun fr t H => ?_)
 refine at_L 1 [(3, Ai (IntKind.i64.wrap (p0.groups_ + 1)))] H fun fr H => aw_sq ?_
 obtain ⟨o1, ho, hm⟩ := bind_some hm
 refine aw_mono (Q' := fun e fr' h' => (∃ x1, e = .normal ∧ x1 = o1 ∧ Has fr' 57 [(0, .ptr (some (bp0, 0))), (3, Ai (IntKind.i64.wrap (p0.groups_ + 1)))] ∧ HH g h' [.obj bp0 (.cells none 2 [.str p0.s_, Ai p0.at_, .bool p0.extended_, rowV rp0_3 p0.t_.Nodes.length, Ai p0.t_.Root, Ai (IntKind.i64.wrap (p0.groups_ + 1)), Ai p0.depth_, Ai p0.wrong_, .bool x1]), .lst rp0_3 68 (lst e_S_tree_Node p0.t_.Nodes)] F) ∨ False) ?_ ?_
 ·replace hm := ho
  clear ho
  refine aw_sr 2 (at_L 2 [(17, .bool (decide ((IntKind.i64.wrap (p0.groups_ + 1)) > 1024)))] H fun fr H => aw_if 17 H hm (fun hb hm H => ?_) fun hb hm H => ?_)
  ·refine aw_rg 4 ?_
   obtain ⟨h2, hx, A⟩ := A.s0 8 [.bool true] [_, _, _, _, _, _, _, _, _]
   refine at_gs 3 [] hx H fun fr t H => ?_
   refine at_nil ?_
   exact .inl ⟨_, rfl, injA hm, H.ls, A⟩
  exact aw_sk (.inl ⟨_, rfl, injA hm, H.ls, A⟩)
 clear ho
 clear A
 intro e fr h3 hQ
 rcases hQ with ⟨x1, rfl, rfl, H, A⟩ | hF
 ·show AW _ _ _ _ _ _ _
  refine aw_sr 8 (at_gl 3 [(21, .ptr (some (bp0, 0)))] 24 0 6 A H fun fr t H => ?_)
  obtain ⟨h4, hx, A⟩ := A.s0 6 [Ai (IntKind.i64.wrap (p0.depth_ + 1))] [_, _, _, _, _, _, _, _, _]
  refine at_gs 3 [] hx H fun fr t H => ?_
  refine at_ns 3 id ?_
  have A1 := A.cut 2
  obtain ⟨⟨x2, x3, x4⟩, hx, hm⟩ := bind_some hm
  obtain ⟨v1, h5, hr, r1, rfl, A1⟩ := hS.ok_rex_walk_expression_sPO (av := [.ptr (some (bp0, 0))]) hx (by kernel_rfl) A1
  replace A := A.g22 A1
  refine at_gc1 1 [] 29 hr H fun fr t H => ?_
  refine at_S 1 [(4, Ai x2)] 8 H fun fr H => at_gl 3 [(30, .ptr (some (bp0, 0)))] 33 0 6 A H fun fr t H => ?_
  obtain ⟨h6, hx, A⟩ := A.s0 6 [Ai (IntKind.i64.wrap (x3.depth_ - 1))] [_, _, _, _, _, _, _, _, _]
  refine at_gs 3 [] hx H fun fr t H => ?_
  refine at_nl id (aw_sq ?_)
  obtain ⟨o2, ho, hm⟩ := bind_some hm
  refine aw_mono (Q' := fun e fr' h' => (∃ x5 x6 x7 x8 x9 x10 x11 x12, e = .normal ∧ (x5, x6, x7, x8, x9, x10, x11, x12) = o2 ∧ Has fr' 57 [(0, .ptr (some (bp0, 0))), (3, Ai (IntKind.i64.wrap (p0.groups_ + 1))), (4, Ai x2)] ∧ HH g h' [.obj bp0 (.cells none 2 [.str x5, Ai x6, .bool x7, rowV r1 x4.length, Ai x8, Ai x9, Ai x10, Ai x11, .bool x12]), .lst r1 68 (lst e_S_tree_Node x4)] F) ∨ False) ?_ ?_
  ·replace hm := ho
   clear ho
   refine aw_sr 7 ?_
   obtain ⟨x13, hx, hm⟩ := bind_some hm
   obtain ⟨v1, h7, hr, rfl, A1⟩ := ok_rex_walk_ok_sPO (av := [.ptr (some (bp0, 0))]) hx (A.cut 2)
   replace A := A.g22 A1
   refine at_gc1 1 [] 38 hr H fun fr t H => ?_
   refine at_sl 1 [(39, .bool x13)] H fun fr H => ?_
   obtain ⟨⟨x14, x15, x16, x17, x18, x19, x20, x21, x22⟩, ho, hm⟩ := bind_some hm
   refine at_cl 4 (fun fr' h' => Has fr' 57 [(0, .ptr (some (bp0, 0))), (3, Ai (IntKind.i64.wrap (p0.groups_ + 1))), (4, Ai x2), (43, .bool x22)] ∧ HH g h' [.obj bp0 (.cells none 2 [.str x14, Ai x15, .bool x16, rowV r1 x4.length, Ai x17, Ai x18, Ai x19, Ai x20, .bool x21]), .lst r1 68 (lst e_S_tree_Node x4)] F) ?_ ?_
   ·rcases iteB_some ho with ⟨hb, hm⟩ | ⟨hb, hm⟩
    ·replace H := H.kn 39 hb
     obtain ⟨⟨x23, x24⟩, hx, hm⟩ := bind_some hm
     obtain ⟨v1, h9, hr, rfl, A1⟩ := ok_rex_walk_next_sPOS (av := [.ptr (some (bp0, 0)), .str ([41] : List UInt8)]) hx (A.cut 2)
     replace A := A.g22 A1
     refine at_gc1 1 [] 41 hr H fun fr t H => ?_
     refine at_sl 2 [(43, .bool (!x23))] H fun fr H => ?_
     obtain ⟨rfl, rfl, rfl, rfl, rfl, rfl, rfl, rfl, rfl⟩ := inj9 hm
     exact at_nil ⟨H.ls, A⟩
    replace H := H.kn 39 hb
    refine at_sl 4 [(43, .bool false)] H fun fr H => ?_
    obtain ⟨rfl, rfl, rfl, rfl, rfl, rfl, rfl, rfl, rfl⟩ := inj9 hm
    exact at_nil ⟨H.ls, A⟩
   clear A
   intro t fr h8 hK
   obtain ⟨H, A⟩ := hK
   refine at_nl id (aw_if 43 H hm (fun hb hm H => ?_) fun hb hm H => ?_)
   ·refine aw_rg 7 (at_gl 4 [(44, .ptr (some (bp0, 0)))] 48 0 0 A H fun fr t H => ?_)
    obtain ⟨x25, hx, hm⟩ := bind_some hm
    obtain ⟨v1, h10, hr, rfl, A1⟩ := ok_rex_walk_fail_sPOI (av := [.ptr (some (bp0, 0)), Ai (x14.length : Int)]) hx (A.cut 2)
    replace A := A.g22 A1
    refine at_gc0 1 [] hr H fun fr t H => ?_
    refine at_nil ?_
    exact .inl ⟨_, _, _, _, _, _, _, _, rfl, injA hm, H.ls, A⟩
   exact aw_sk (.inl ⟨_, _, _, _, _, _, _, _, rfl, injA hm, H.ls, A⟩)
  clear ho
  clear A
  intro e fr h11 hQ
  rcases hQ with ⟨x5, x6, x7, x8, x9, x10, x11, x12, rfl, rfl, H, A⟩ | hF
  ·show AW _ _ _ _ _ _ _
   refine aw_sr 7 ?_
   obtain ⟨⟨x26, x27, x28⟩, hx, hm⟩ := bind_some hm
   obtain ⟨v1, h12, hr, r2, rfl, A1⟩ := ok_rex_walk_add_sPOR (av := [.ptr (some (bp0, 0)), .agg [Ai 5, Ai x2, Ai 0, Ai 0, Ai 0, Ai (mn (IntKind.i64.wrap (p0.groups_ + 1)) (1024 : Int)), Au 0, Au 0, Au 0, Au 0]]) hx (A.cut 2)
   replace A := A.g22 A1
   refine at_gc1 5 [] 56 hr H fun fr t H => ?_
   refine at_L 1 [(2, Ai x26)] H fun fr H => aw_rt ?_
   obtain ⟨rfl, rfl, rfl⟩ := injC hm
   exact ⟨.inl rfl, _, rH H, _, rfl, A⟩
  exact hF.elim
 exact hF.elim
def M_rex_walk_expression_sPO_L0 (S : SC_rex_walk_group_sPO) (s : (List Int) × (List UInt8) × Int × Bool × Int × Int × Int × Int × Bool × (List S_tree_Node)) : Option (((List Int) × (List UInt8) × Int × Bool × Int × Int × Int × Int × Bool × (List S_tree_Node)) ⊕ (((List Int) × (List UInt8) × Int × Bool × Int × Int × Int × Int × Bool × (List S_tree_Node)))) :=
 match s with
 | (x1, x2, x3, x4, x5, x6, x7, x8, x9, x10) => (S.M_rex_walk_branch_sPO (⟨x2, x3, x4, (⟨x10, x5⟩ : S_tree_Tree), x6, x7, x8, x9⟩ : S_rex_walk)).bind fun (x21, x22, x23) => need (okN 8 (x1.length + ([x21] : List Int).length)) <| (M_rex_walk_ok_sPO (⟨x22.s_, x22.at_, x22.extended_, (⟨x23, x22.t_.Root⟩ : S_tree_Tree), x22.groups_, x22.depth_, x22.wrong_, x22.full_⟩ : S_rex_walk)).bind fun x24 => (iteB (!x24) (some (x22.s_, x22.at_, x22.extended_, x22.t_.Root, x22.groups_, x22.depth_, x22.wrong_, x22.full_, true)) ((M_rex_walk_next_sPOS (⟨x22.s_, x22.at_, x22.extended_, (⟨x23, x22.t_.Root⟩ : S_tree_Tree), x22.groups_, x22.depth_, x22.wrong_, x22.full_⟩ : S_rex_walk) ([124] : List UInt8)).bind fun (x34, x35) => some (x35.s_, x35.at_, x35.extended_, x35.t_.Root, x35.groups_, x35.depth_, x35.wrong_, x35.full_, !x34)) : Option ((List UInt8) × Int × Bool × Int × Int × Int × Int × Bool × Bool)).bind fun (x25, x26, x27, x28, x29, x30, x31, x32, x33) => iteB x33 (some (.inr ((x1 ++ ([x21] : List Int)), x25, x26, x27, x28, x29, x30, x31, x32, x23))) (some (.inl ((x1 ++ ([x21] : List Int)), x25, x26, x27, x28, x29, x30, x31, x32, x23)))
def B_rex_walk_expression_sPO (S : SC_rex_walk_group_sPO) (p0 : S_rex_walk) : Option (Int × S_rex_walk × (List S_tree_Node)) :=
 (loop (M_rex_walk_expression_sPO_L0 S) (([] : List Int), p0.s_, p0.at_, p0.extended_, p0.t_.Root, p0.groups_, p0.depth_, p0.wrong_, p0.full_, p0.t_.Nodes)).bind fun (x11, x12, x13, x14, x15, x16, x17, x18, x19, x20) => (M_rex_walk_nest_sPOIO (⟨x12, x13, x14, (⟨x20, x15⟩ : S_tree_Tree), x16, x17, x18, x19⟩ : S_rex_walk) (3 : Int) x11).bind fun (x36, x37, x38) => some (x36, (⟨x37.s_, x37.at_, x37.extended_, (⟨x38, x37.t_.Root⟩ : S_tree_Tree), x37.groups_, x37.depth_, x37.wrong_, x37.full_⟩ : S_rex_walk), x38)
theorem okB_rex_walk_expression_sPO {S : SC_rex_walk_group_sPO} (hS : OkSC_rex_walk_group_sPO S) {p0 bp0 rp0_3 q0 u0 u1} (hm : B_rex_walk_expression_sPO S p0 = some (q0, u0, u1)) (hc : canL (cfg.still 36) av = [.ptr (some (bp0, 0))]) (A : HH g h [.obj bp0 (.cells none 2 (w_rex_walk_3 p0 (rowV rp0_3 p0.t_.Nodes.length))), .lst rp0_3 68 (lst e_S_tree_Node p0.t_.Nodes)] F) : ∃ v h', Runs cfg g h 36 av v h' ∧ ∃ (r'1 : Option Nat), v = Ai q0 ∧ HH g h' [.obj bp0 (.cells none 2 (w_rex_walk_3 u0 (rowV r'1 u1.length))), .lst r'1 68 (lst e_S_tree_Node u1)] F := by
 refine rq1 20 [.tmp 2] hc ?_
 clear hc
 unfold B_rex_walk_expression_sPO at hm
 refine bg 20 [(0, .ptr (some (bp0, 0)))] fun fr H => ?_
 refine aw_sr 1 (at_S 1 [] 1 H fun fr H => at_L 1 [(3, .slice none 0)] H fun fr H => aw_sq (aw_block (id := 0) (by kernel_rfl) ?_))
 replace A : HH g h [.lst none 3 (lst (eI .i64) ([] : List Int)), _, _] F := A.nilL 3
 obtain ⟨o1, ho, hm⟩ := bind_some hm
 refine aw_mono (Q' := fun e fr' h' => (∃ x11 x12 x13 x14 x15 x16 x17 x18 x19 x20, e = .exit 0 ∧ (x11, x12, x13, x14, x15, x16, x17, x18, x19, x20) = o1 ∧ ∃ r3 r4, Has fr' 20 [(0, .ptr (some (bp0, 0))), (3, rowV r3 x11.length)] ∧ HH g h' [.lst r3 3 (lst (eI .i64) x11), .obj bp0 (.cells none 2 [.str x12, Ai x13, .bool x14, rowV r4 x20.length, Ai x15, Ai x16, Ai x17, Ai x18, .bool x19]), .lst r4 68 (lst e_S_tree_Node x20)] F) ∨ False) ?_ ?_
 ·refine aw_loop (by kernel_rfl) (fun (s : (List Int) × (List UInt8) × Int × Bool × Int × Int × Int × Int × Bool × (List S_tree_Node)) fr' h' => ∃ x1 x2 x3 x4 x5 x6 x7 x8 x9 x10, (x1, x2, x3, x4, x5, x6, x7, x8, x9, x10) = s ∧ ∃ r1 r2, Has fr' 20 [(0, .ptr (some (bp0, 0))), (3, rowV r1 x1.length)] ∧ HH g h' [.lst r1 3 (lst (eI .i64) x1), .obj bp0 (.cells none 2 [.str x2, Ai x3, .bool x4, rowV r2 x10.length, Ai x5, Ai x6, Ai x7, Ai x8, .bool x9]), .lst r2 68 (lst e_S_tree_Node x10)] F) ho ⟨_, _, _, _, _, _, _, _, _, _, rfl, none, rp0_3, H.ls, A⟩ ?_
  clear ho hm H A
  intro s q fr h1 hI hm
  obtain ⟨x1, x2, x3, x4, x5, x6, x7, x8, x9, x10, rfl, r1, r2, H, A⟩ := hI
  unfold M_rex_walk_expression_sPO_L0 at hm
  refine aw_block (id := 1) (by kernel_rfl) ?_
  refine aw_sr 6 ?_
  replace A := A.k3 1 2 0
  have A1 := A.cut 2
  obtain ⟨⟨x21, x22, x23⟩, hx, hm⟩ := bind_some hm
  obtain ⟨v1, h2, hr, r5, rfl, A1⟩ := hS.ok_rex_walk_branch_sPO (av := [.ptr (some (bp0, 0))]) hx (by kernel_rfl) A1
  replace A := A.g22 A1
  refine at_gc1 2 [(4, rowV r1 x1.length)] 6 hr H fun fr t H => ?_
  obtain ⟨h3, e1, A⟩ := A.pL 3 [Ai x21]
  refine at_ln 7 (rowV (some h2.size) (([x21] : List Int).length)) e1 H fun fr t H => ?_
  obtain ⟨hb, hm⟩ := need_some hm
  obtain ⟨r6, h4, hx, A1⟩ := HH.appO (encI .i64) (by decide) A 3 (xs := x1) (ys := ([x21] : List Int)) rfl (row_first A 0 rfl (n := ([x21] : List Int).length) (z := 1) rfl (by decide)) rfl rfl hb
  replace A : HH g h4 [.lst (some h2.size) 3 ([Ai x21]), _, _, .lst r6 3 (lst (eI .i64) (x1 ++ ([x21] : List Int)))] F := A1
  replace A := A.k3 1 2 3
  refine at_l1 8 _ _ H (fun fr => .of (s_app (s := rowS r1 x1.length) (by kernel_rfl) hx)) fun fr t H => ?_
  refine at_se 1 [(0, .ptr (some (bp0, 0))), (3, rowV r6 ((x1 ++ ([x21] : List Int)).length))] H fun fr H => at_ns 8 id ?_
  obtain ⟨x24, hx, hm⟩ := bind_some hm
  obtain ⟨v1, h5, hr, rfl, A1⟩ := ok_rex_walk_ok_sPO (av := [.ptr (some (bp0, 0))]) hx (A.cut 2)
  replace A := A.g22 A1
  refine at_gc1 1 [] 10 hr H fun fr t H => ?_
  refine at_sl 2 [(12, .bool (!x24))] H fun fr H => ?_
  obtain ⟨⟨x25, x26, x27, x28, x29, x30, x31, x32, x33⟩, ho, hm⟩ := bind_some hm
  refine at_cl 4 (fun fr' h' => Has fr' 20 [(0, .ptr (some (bp0, 0))), (3, rowV r6 ((x1 ++ ([x21] : List Int)).length)), (16, .bool x33)] ∧ HH g h' [.obj bp0 (.cells none 2 [.str x25, Ai x26, .bool x27, rowV r5 x23.length, Ai x28, Ai x29, Ai x30, Ai x31, .bool x32]), .lst r5 68 (lst e_S_tree_Node x23), .lst r6 3 (lst (eI .i64) (x1 ++ ([x21] : List Int)))] F) ?_ ?_
  ·rcases iteB_some ho with ⟨hb, hm⟩ | ⟨hb, hm⟩
   ·replace H := H.kn 12 hb
    refine at_sl 4 [(16, .bool true)] H fun fr H => ?_
    obtain ⟨rfl, rfl, rfl, rfl, rfl, rfl, rfl, rfl, rfl⟩ := inj9 hm
    exact at_nil ⟨H.ls, A⟩
   replace H := H.kn 12 hb
   obtain ⟨⟨x34, x35⟩, hx, hm⟩ := bind_some hm
   obtain ⟨v1, h7, hr, rfl, A1⟩ := ok_rex_walk_next_sPOS (av := [.ptr (some (bp0, 0)), .str ([124] : List UInt8)]) hx (A.cut 2)
   replace A := A.g22 A1
   refine at_gc1 1 [] 14 hr H fun fr t H => ?_
   refine at_sl 2 [(16, .bool (!x34))] H fun fr H => ?_
   obtain ⟨rfl, rfl, rfl, rfl, rfl, rfl, rfl, rfl, rfl⟩ := inj9 hm
   exact at_nil ⟨H.ls, A⟩
  clear A
  intro t fr h6 hK
  obtain ⟨H, A⟩ := hK
  refine at_nl id (aw_if 16 H hm (fun hb hm H => ?_) fun hb hm H => ?_)
  ·refine aw_exit (i := 0) (by kernel_rfl) ?_
   replace A := A.k3 2 0 1
   exact nr hm fun e => .inl ⟨_, _, _, _, _, _, _, _, _, _, rfl, e, _, _, H.ls, A⟩
  refine aw_sk ?_
  replace A := A.k3 2 0 1
  exact nx hm ⟨_, _, _, _, _, _, _, _, _, _, rfl, _, _, H.ls, A⟩
 clear ho
 clear A
 intro e fr h8 hQ
 rcases hQ with ⟨x11, x12, x13, x14, x15, x16, x17, x18, x19, x20, rfl, rfl, r3, r4, H, A⟩ | hF
 ·show AW _ _ _ _ _ _ _
  refine aw_sr 4 ?_
  replace A := A.k3 1 2 0
  obtain ⟨⟨x36, x37, x38⟩, hx, hm⟩ := bind_some hm
  obtain ⟨v1, h9, hr, r7, rfl, A1⟩ := ok_rex_walk_nest_sPOIO (av := [.ptr (some (bp0, 0)), Ai 3, rowV r3 x11.length]) hx (A.cut 3)
  replace A := A.g33 A1
  refine at_gc1 2 [] 19 hr H fun fr t H => ?_
  refine at_L 1 [(2, Ai x36)] H fun fr H => aw_rt ?_
  obtain ⟨rfl, rfl, rfl⟩ := injC hm
  refine ⟨.inl rfl, Ai x36, rH H, ?_⟩
  replace A := A.d2
  exact ⟨r7, rfl, A⟩
 exact hF.elim
def M_rex_walk_branch_sPO_L0 (S : SC_rex_walk_group_sPO) (s : (List Int) × (List UInt8) × Int × Bool × Int × Int × Int × Int × Bool × (List S_tree_Node) × Bool) : Option (((List Int) × (List UInt8) × Int × Bool × Int × Int × Int × Int × Bool × (List S_tree_Node) × Bool) ⊕ (((List Int) × (List UInt8) × Int × Bool × Int × Int × Int × Int × Bool × (List S_tree_Node)))) :=
 match s with
 | (x1, x2, x3, x4, x5, x6, x7, x8, x9, x10, x11) => (M_rex_walk_ok_sPO (⟨x2, x3, x4, (⟨x10, x5⟩ : S_tree_Tree), x6, x7, x8, x9⟩ : S_rex_walk)).bind fun x22 => (iteB x22 ((M_rex_walk_closes_sPO (⟨x2, x3, x4, (⟨x10, x5⟩ : S_tree_Tree), x6, x7, x8, x9⟩ : S_rex_walk)).bind fun x24 => some (!x24)) (some false) : Option (Bool)).bind fun x23 => iteB x23 ((iteB (!x4) ((ixS x2 x3).bind fun x26 => some (x26 == 42)) (some false) : Option (Bool)).bind fun x25 => iteB (x25 && (((x1.length : Int) == 0) || x11)) ((M_rex_walk_one_sPOI (⟨x2, IntKind.i64.wrap (x3 + 1), x4, (⟨x10, x5⟩ : S_tree_Tree), x6, x7, x8, x9⟩ : S_rex_walk) (42 : Int)).bind fun (x27, x28, x29) => (M_rex_walk_repeats_sPOI (⟨x28.s_, x28.at_, x28.extended_, (⟨x29, x28.t_.Root⟩ : S_tree_Tree), x28.groups_, x28.depth_, x28.wrong_, x28.full_⟩ : S_rex_walk) x27).bind fun (x30, x31, x32) => need (okN 8 (x1.length + ([x30] : List Int).length)) <| some (.inl ((x1 ++ ([x30] : List Int)), x31.s_, x31.at_, x31.extended_, x31.t_.Root, x31.groups_, x31.depth_, x31.wrong_, x31.full_, x32, false))) ((iteB (!x4) ((ixS x2 x3).bind fun x34 => some (x34 == 94)) (some false) : Option (Bool)).bind fun x33 => iteB (x33 && ((x1.length : Int) == 0)) ((M_rex_walk_add_sPOR (⟨x2, IntKind.i64.wrap (x3 + 1), x4, (⟨x10, x5⟩ : S_tree_Tree), x6, x7, x8, x9⟩ : S_rex_walk) (⟨(6 : Int), (0 : Int), (0 : Int), (0 : Int), (0 : Int), (0 : Int), (⟨(0 : Int), (0 : Int), (0 : Int), (0 : Int)⟩ : A4_uint64)⟩ : S_tree_Node)).bind fun (x35, x36, x37) => need (okN 8 (x1.length + ([x35] : List Int).length)) <| some (.inl ((x1 ++ ([x35] : List Int)), x36.s_, x36.at_, x36.extended_, x36.t_.Root, x36.groups_, x36.depth_, x36.wrong_, x36.full_, x37, true))) ((S.M_rex_walk_atom_sPO (⟨x2, x3, x4, (⟨x10, x5⟩ : S_tree_Tree), x6, x7, x8, x9⟩ : S_rex_walk)).bind fun (x38, x39, x40) => (M_rex_walk_ok_sPO (⟨x39.s_, x39.at_, x39.extended_, (⟨x40, x39.t_.Root⟩ : S_tree_Tree), x39.groups_, x39.depth_, x39.wrong_, x39.full_⟩ : S_rex_walk)).bind fun x41 => iteB (!x41) (some (.inr (x1, x39.s_, x39.at_, x39.extended_, x39.t_.Root, x39.groups_, x39.depth_, x39.wrong_, x39.full_, x40))) (iteB (x39.at_ == x3) ((M_rex_walk_fail_sPOI (⟨x39.s_, x39.at_, x39.extended_, (⟨x40, x39.t_.Root⟩ : S_tree_Tree), x39.groups_, x39.depth_, x39.wrong_, x39.full_⟩ : S_rex_walk) x3).bind fun x42 => some (.inr (x1, x42.s_, x42.at_, x42.extended_, x42.t_.Root, x42.groups_, x42.depth_, x42.wrong_, x42.full_, x40))) ((M_rex_walk_repeats_sPOI (⟨x39.s_, x39.at_, x39.extended_, (⟨x40, x39.t_.Root⟩ : S_tree_Tree), x39.groups_, x39.depth_, x39.wrong_, x39.full_⟩ : S_rex_walk) x38).bind fun (x43, x44, x45) => need (okN 8 (x1.length + ([x43] : List Int).length)) <| some (.inl ((x1 ++ ([x43] : List Int)), x44.s_, x44.at_, x44.extended_, x44.t_.Root, x44.groups_, x44.depth_, x44.wrong_, x44.full_, x45, false))))))) (some (.inr (x1, x2, x3, x4, x5, x6, x7, x8, x9, x10)))
def B_rex_walk_branch_sPO (S : SC_rex_walk_group_sPO) (p0 : S_rex_walk) : Option (Int × S_rex_walk × (List S_tree_Node)) :=
 (loop (M_rex_walk_branch_sPO_L0 S) (([] : List Int), p0.s_, p0.at_, p0.extended_, p0.t_.Root, p0.groups_, p0.depth_, p0.wrong_, p0.full_, p0.t_.Nodes, false)).bind fun (x12, x13, x14, x15, x16, x17, x18, x19, x20, x21) => (M_rex_walk_nest_sPOIO (⟨x13, x14, x15, (⟨x21, x16⟩ : S_tree_Tree), x17, x18, x19, x20⟩ : S_rex_walk) (2 : Int) x12).bind fun (x46, x47, x48) => some (x46, (⟨x47.s_, x47.at_, x47.extended_, (⟨x48, x47.t_.Root⟩ : S_tree_Tree), x47.groups_, x47.depth_, x47.wrong_, x47.full_⟩ : S_rex_walk), x48)
theorem okB_rex_walk_branch_sPO {S : SC_rex_walk_group_sPO} (hS : OkSC_rex_walk_group_sPO S) {p0 bp0 rp0_3 q0 u0 u1} (hm : B_rex_walk_branch_sPO S p0 = some (q0, u0, u1)) (hc : canL (cfg.still 56) av = [.ptr (some (bp0, 0))]) (A : HH g h [.obj bp0 (.cells none 2 (w_rex_walk_3 p0 (rowV rp0_3 p0.t_.Nodes.length))), .lst rp0_3 68 (lst e_S_tree_Node p0.t_.Nodes)] F) : ∃ v h', Runs cfg g h 56 av v h' ∧ ∃ (r'1 : Option Nat), v = Ai q0 ∧ HH g h' [.obj bp0 (.cells none 2 (w_rex_walk_3 u0 (rowV r'1 u1.length))), .lst r'1 68 (lst e_S_tree_Node u1)] F := by
 refine rq1 115 [.tmp 2] hc ?_
 clear hc
 unfold B_rex_walk_branch_sPO at hm
 refine bg 115 [(0, .ptr (some (bp0, 0)))] fun fr H => ?_
 refine aw_sr 1 (at_S 1 [] 1 H fun fr H => at_S 1 [(3, .slice none 0)] 1 H fun fr H => at_L 1 [(4, .bool false)] H fun fr H => aw_sq (aw_block (id := 0) (by kernel_rfl) ?_))
 replace A : HH g h [.lst none 3 (lst (eI .i64) ([] : List Int)), _, _] F := A.nilL 3
 obtain ⟨o1, ho, hm⟩ := bind_some hm
 refine aw_mono (Q' := fun e fr' h' => (∃ x12 x13 x14 x15 x16 x17 x18 x19 x20 x21, e = .exit 0 ∧ (x12, x13, x14, x15, x16, x17, x18, x19, x20, x21) = o1 ∧ ∃ r3 r4, Has fr' 115 [(0, .ptr (some (bp0, 0))), (3, rowV r3 x12.length)] ∧ HH g h' [.lst r3 3 (lst (eI .i64) x12), .obj bp0 (.cells none 2 [.str x13, Ai x14, .bool x15, rowV r4 x21.length, Ai x16, Ai x17, Ai x18, Ai x19, .bool x20]), .lst r4 68 (lst e_S_tree_Node x21)] F) ∨ False) ?_ ?_
 ·refine aw_loop (by kernel_rfl) (fun (s : (List Int) × (List UInt8) × Int × Bool × Int × Int × Int × Int × Bool × (List S_tree_Node) × Bool) fr' h' => ∃ x1 x2 x3 x4 x5 x6 x7 x8 x9 x10 x11, (x1, x2, x3, x4, x5, x6, x7, x8, x9, x10, x11) = s ∧ ∃ r1 r2, Has fr' 115 [(0, .ptr (some (bp0, 0))), (3, rowV r1 x1.length), (4, .bool x11)] ∧ HH g h' [.lst r1 3 (lst (eI .i64) x1), .obj bp0 (.cells none 2 [.str x2, Ai x3, .bool x4, rowV r2 x10.length, Ai x5, Ai x6, Ai x7, Ai x8, .bool x9]), .lst r2 68 (lst e_S_tree_Node x10)] F) ho ⟨_, _, _, _, _, _, _, _, _, _, _, rfl, none, rp0_3, H.ls, A⟩ ?_
  clear ho hm H A
  intro s q fr h1 hI hm
  obtain ⟨x1, x2, x3, x4, x5, x6, x7, x8, x9, x10, x11, rfl, r1, r2, H, A⟩ := hI
  unfold M_rex_walk_branch_sPO_L0 at hm
  refine aw_sq (aw_sr 7 ?_)
  replace A := A.k3 1 2 0
  obtain ⟨x22, hx, hm⟩ := bind_some hm
  obtain ⟨v1, h2, hr, rfl, A1⟩ := ok_rex_walk_ok_sPO (av := [.ptr (some (bp0, 0))]) hx (A.cut 2)
  replace A := A.g22 A1
  refine at_gc1 1 [] 9 hr H fun fr t H => ?_
  refine at_sl 1 [(10, .bool x22)] H fun fr H => ?_
  obtain ⟨x23, ho, hm⟩ := bind_some hm
  refine at_cl 4 (fun fr' h' => Has fr' 115 [(0, .ptr (some (bp0, 0))), (3, rowV r1 x1.length), (4, .bool x11), (14, .bool x23)] ∧ HH g h' [.obj bp0 (.cells none 2 [.str x2, Ai x3, .bool x4, rowV r2 x10.length, Ai x5, Ai x6, Ai x7, Ai x8, .bool x9]), .lst r2 68 (lst e_S_tree_Node x10), .lst r1 3 (lst (eI .i64) x1)] F) ?_ ?_
  ·rcases iteB_some ho with ⟨hb, hm⟩ | ⟨hb, hm⟩
   ·replace H := H.kn 10 hb
    obtain ⟨x24, hx, hm⟩ := bind_some hm
    obtain ⟨v1, h4, hr, rfl, A1⟩ := ok_rex_walk_closes_sPO (av := [.ptr (some (bp0, 0))]) hx (A.cut 2)
    replace A := A.g22 A1
    refine at_gc1 1 [] 12 hr H fun fr t H => ?_
    refine at_sl 2 [(14, .bool (!x24))] H fun fr H => ?_
    obtain rfl := injA hm
    exact at_nil ⟨H.ls, A⟩
   replace H := H.kn 10 hb
   refine at_sl 4 [(14, .bool false)] H fun fr H => ?_
   obtain rfl := injA hm
   exact at_nil ⟨H.ls, A⟩
  clear A
  intro t fr h3 hK
  obtain ⟨H, A⟩ := hK
  refine at_nl id (aw_if 14 H hm (fun hb hm H => ?_) fun hb hm H => ?_)
  ·refine aw_kn id (aw_block (id := 1) (by kernel_rfl) ?_)
   refine aw_sr 5 (at_gl 3 [] 18 0 1 A H fun fr t H => ?_)
   refine at_S 1 [(5, Ai x3)] 4 H fun fr H => at_L 4 [(6, .bool ((x1.length : Int) == 0))] H fun fr H => aw_sq (aw_sq (aw_dg 6 23 ?_))
   refine at_gl 3 [] 25 0 2 A H fun fr t H => ?_
   refine at_sl 2 [(27, .bool (!x4))] H fun fr H => ?_
   obtain ⟨x25, ho, hm⟩ := bind_some hm
   refine at_cl 11 (fun fr' h' => Has fr' 115 [(0, .ptr (some (bp0, 0))), (3, rowV r1 x1.length), (4, .bool x11), (5, Ai x3), (6, .bool ((x1.length : Int) == 0)), (38, .bool x25)] ∧ HH g h' [.obj bp0 (.cells none 2 [.str x2, Ai x3, .bool x4, rowV r2 x10.length, Ai x5, Ai x6, Ai x7, Ai x8, .bool x9]), .lst r2 68 (lst e_S_tree_Node x10), .lst r1 3 (lst (eI .i64) x1)] F) ?_ ?_
   ·rcases iteB_some ho with ⟨hb, hm⟩ | ⟨hb, hm⟩
    ·replace H := H.kn 27 hb
     refine at_gl 3 [] 31 0 0 A H fun fr t H => ?_
     refine at_gl 3 [] 35 0 1 A H fun fr t H => ?_
     obtain ⟨x26, hx, hm⟩ := bind_some hm
     refine at_l1 36 (Ab x26) h3 H (fun fr => .of (s_ixS (by kernel_rfl) hx)) fun fr t H => ?_
     refine at_sl 2 [(38, .bool (x26 == 42))] H fun fr H => ?_
     obtain rfl := injA hm
     exact at_nil ⟨H.ls, A⟩
    replace H := H.kn 27 hb
    refine at_sl 11 [(38, .bool false)] H fun fr H => ?_
    obtain rfl := injA hm
    exact at_nil ⟨H.ls, A⟩
   clear A
   intro t fr h5 hK
   obtain ⟨H, A⟩ := hK
   refine at_sl 1 [(39, .bool x25)] H fun fr H => at_cl 5 (fun fr' h' => h5 = h' ∧ Has fr' 115 [(0, .ptr (some (bp0, 0))), (3, rowV r1 x1.length), (5, Ai x3), (6, .bool ((x1.length : Int) == 0)), (44, .bool (x25 && (((x1.length : Int) == 0) || x11)))]) ?_ ?_
   ·cases hb : (x25 : Bool) with
    | true =>
     replace H := H.kn 39 hb
     refine at_sl 2 [(41, .bool ((x1.length : Int) == 0))] H fun fr H => at_cl 2 (fun fr' h' => h5 = h' ∧ Has fr' 115 [(0, .ptr (some (bp0, 0))), (3, rowV r1 x1.length), (5, Ai x3), (6, .bool ((x1.length : Int) == 0)), (39, .bool true), (43, .bool (((x1.length : Int) == 0) || x11))]) ?_ ?_
     ·cases hb : ((x1.length : Int) == 0 : Bool) with
      | true =>
       replace H := H.kn 41 hb
       exact at_sl 2 [(43, .bool true)] H fun fr H => at_zb H hb
      | false =>
       replace H := H.kn 41 hb
       exact at_sl 2 [(43, .bool x11)] H fun fr H => at_zb H hb
     intro t fr h' hK
     obtain ⟨e, H⟩ := hK
     subst e
     exact at_sl 1 [(44, .bool (((x1.length : Int) == 0) || x11))] H fun fr H => at_zb H hb
    | false =>
     replace H := H.kn 39 hb
     exact at_sl 5 [(44, .bool false)] H fun fr H => at_zb H hb
   intro t fr h' hK
   obtain ⟨e, H⟩ := hK
   subst e
   refine at_nl id (aw_if 44 H hm (fun hb hm H => ?_) fun hb hm H => ?_)
   ·refine aw_sr 8 (at_gl 3 [(45, .ptr (some (bp0, 0)))] 48 0 1 A H fun fr t H => ?_)
    obtain ⟨h6, hx, A⟩ := A.s0 1 [Ai (IntKind.i64.wrap (x3 + 1))] [_, _, _, _, _, _, _, _, _]
    refine at_gs 3 [] hx H fun fr t H => ?_
    refine at_ns 8 id ?_
    obtain ⟨⟨x27, x28, x29⟩, hx, hm⟩ := bind_some hm
    obtain ⟨v1, h7, hr, r5, rfl, A1⟩ := ok_rex_walk_one_sPOI (av := [.ptr (some (bp0, 0)), Ab 42]) hx (A.cut 2)
    replace A := A.g22 A1
    refine at_gc1 3 [(52, rowV r1 x1.length), (53, .ptr (some (bp0, 0)))] 55 hr H fun fr t H => ?_
    obtain ⟨⟨x30, x31, x32⟩, hx, hm⟩ := bind_some hm
    obtain ⟨v1, h8, hr, r6, rfl, A1⟩ := ok_rex_walk_repeats_sPOI (av := [.ptr (some (bp0, 0)), Ai x27]) hx (A.cut 2)
    replace A := A.g22 A1
    refine at_lc1 56 hr H fun fr t H => ?_
    obtain ⟨h9, e1, A⟩ := A.pL 3 [Ai x30]
    refine at_ln 57 (rowV (some h8.size) (([x30] : List Int).length)) e1 H fun fr t H => ?_
    obtain ⟨hb, hm⟩ := need_some hm
    obtain ⟨r7, h10, hx, A1⟩ := HH.appO (encI .i64) (by decide) A 3 (xs := x1) (ys := ([x30] : List Int)) rfl (row_first A 0 rfl (n := ([x30] : List Int).length) (z := 1) rfl (by decide)) rfl rfl hb
    replace A : HH g h10 [.lst (some h8.size) 3 ([Ai x30]), _, _, .lst r7 3 (lst (eI .i64) (x1 ++ ([x30] : List Int)))] F := A1
    replace A := A.k3 1 2 3
    refine at_l1 58 _ _ H (fun fr => .of (s_app (s := rowS r1 x1.length) (by kernel_rfl) hx)) fun fr t H => ?_
    refine at_se 1 [(0, .ptr (some (bp0, 0))), (3, rowV r7 ((x1 ++ ([x30] : List Int)).length))] H fun fr H => at_ns 1 id (at_L 1 [(4, .bool false)] H fun fr H => aw_exit (i := 1) (by kernel_rfl) ?_)
    replace A := A.k3 2 0 1
    exact nx hm ⟨_, _, _, _, _, _, _, _, _, _, _, rfl, _, _, H.ls, A⟩
   refine aw_kn id (aw_sq (aw_sq (aw_dg 10 20 ?_)))
   refine at_gl 3 [] 62 0 2 A H fun fr t H => ?_
   refine at_sl 2 [(64, .bool (!x4))] H fun fr H => ?_
   obtain ⟨x33, ho, hm⟩ := bind_some hm
   refine at_cl 11 (fun fr' h' => Has fr' 115 [(0, .ptr (some (bp0, 0))), (3, rowV r1 x1.length), (5, Ai x3), (6, .bool ((x1.length : Int) == 0)), (75, .bool x33)] ∧ HH g h' [.obj bp0 (.cells none 2 [.str x2, Ai x3, .bool x4, rowV r2 x10.length, Ai x5, Ai x6, Ai x7, Ai x8, .bool x9]), .lst r2 68 (lst e_S_tree_Node x10), .lst r1 3 (lst (eI .i64) x1)] F) ?_ ?_
   ·rcases iteB_some ho with ⟨hb, hm⟩ | ⟨hb, hm⟩
    ·replace H := H.kn 64 hb
     refine at_gl 3 [] 68 0 0 A H fun fr t H => ?_
     refine at_gl 3 [] 72 0 1 A H fun fr t H => ?_
     obtain ⟨x34, hx, hm⟩ := bind_some hm
     refine at_l1 73 (Ab x34) h5 H (fun fr => .of (s_ixS (by kernel_rfl) hx)) fun fr t H => ?_
     refine at_sl 2 [(75, .bool (x34 == 94))] H fun fr H => ?_
     obtain rfl := injA hm
     exact at_nil ⟨H.ls, A⟩
    replace H := H.kn 64 hb
    refine at_sl 11 [(75, .bool false)] H fun fr H => ?_
    obtain rfl := injA hm
    exact at_nil ⟨H.ls, A⟩
   clear A
   intro t fr h11 hK
   obtain ⟨H, A⟩ := hK
   refine at_sl 1 [(76, .bool x33)] H fun fr H => at_cl 2 (fun fr' h' => h11 = h' ∧ Has fr' 115 [(0, .ptr (some (bp0, 0))), (3, rowV r1 x1.length), (5, Ai x3), (78, .bool (x33 && ((x1.length : Int) == 0)))]) ?_ ?_
   ·cases hb : (x33 : Bool) with
    | true =>
     replace H := H.kn 76 hb
     exact at_sl 2 [(78, .bool ((x1.length : Int) == 0))] H fun fr H => at_zb H hb
    | false =>
     replace H := H.kn 76 hb
     exact at_sl 2 [(78, .bool false)] H fun fr H => at_zb H hb
   intro t fr h' hK
   obtain ⟨e, H⟩ := hK
   subst e
   refine at_nl id (aw_if 78 H hm (fun hb hm H => ?_) fun hb hm H => ?_)
   ·refine aw_sr 8 (at_gl 3 [(79, .ptr (some (bp0, 0)))] 82 0 1 A H fun fr t H => ?_)
    obtain ⟨h12, hx, A⟩ := A.s0 1 [Ai (IntKind.i64.wrap (x3 + 1))] [_, _, _, _, _, _, _, _, _]
    refine at_gs 3 [] hx H fun fr t H => ?_
    refine at_ns 7 id ?_
    obtain ⟨⟨x35, x36, x37⟩, hx, hm⟩ := bind_some hm
    obtain ⟨v1, h13, hr, r8, rfl, A1⟩ := ok_rex_walk_add_sPOR (av := [.ptr (some (bp0, 0)), .agg [Ai 6, Ai 0, Ai 0, Ai 0, Ai 0, Ai 0, Au 0, Au 0, Au 0, Au 0]]) hx (A.cut 2)
    replace A := A.g22 A1
    refine at_gc1 3 [(86, rowV r1 x1.length)] 89 hr H fun fr t H => ?_
    obtain ⟨h14, e2, A⟩ := A.pL 3 [Ai x35]
    refine at_ln 90 (rowV (some h13.size) (([x35] : List Int).length)) e2 H fun fr t H => ?_
    obtain ⟨hb, hm⟩ := need_some hm
    obtain ⟨r9, h15, hx, A1⟩ := HH.appO (encI .i64) (by decide) A 3 (xs := x1) (ys := ([x35] : List Int)) rfl (row_first A 0 rfl (n := ([x35] : List Int).length) (z := 1) rfl (by decide)) rfl rfl hb
    replace A : HH g h15 [.lst (some h13.size) 3 ([Ai x35]), _, _, .lst r9 3 (lst (eI .i64) (x1 ++ ([x35] : List Int)))] F := A1
    replace A := A.k3 1 2 3
    refine at_l1 91 _ _ H (fun fr => .of (s_app (s := rowS r1 x1.length) (by kernel_rfl) hx)) fun fr t H => ?_
    refine at_se 1 [(0, .ptr (some (bp0, 0))), (3, rowV r9 ((x1 ++ ([x35] : List Int)).length))] H fun fr H => at_ns 1 id (at_L 1 [(4, .bool true)] H fun fr H => aw_exit (i := 1) (by kernel_rfl) ?_)
    replace A := A.k3 2 0 1
    exact nx hm ⟨_, _, _, _, _, _, _, _, _, _, _, rfl, _, _, H.ls, A⟩
   refine aw_ks 3 id ?_
   have A1 := A.cut 2
   obtain ⟨⟨x38, x39, x40⟩, hx, hm⟩ := bind_some hm
   obtain ⟨v1, h16, hr, r10, rfl, A1⟩ := hS.ok_rex_walk_atom_sPO (av := [.ptr (some (bp0, 0))]) hx (by kernel_rfl) A1
   replace A := A.g22 A1
   refine at_gc1 1 [] 93 hr H fun fr t H => ?_
   refine at_L 1 [(7, Ai x38)] H fun fr H => aw_sq (aw_sr 3 ?_)
   obtain ⟨x41, hx, hm⟩ := bind_some hm
   obtain ⟨v1, h17, hr, rfl, A1⟩ := ok_rex_walk_ok_sPO (av := [.ptr (some (bp0, 0))]) hx (A.cut 2)
   replace A := A.g22 A1
   refine at_gc1 1 [] 95 hr H fun fr t H => ?_
   refine at_L 1 [(96, .bool (!x41))] H fun fr H => aw_if 96 H hm (fun hb hm H => ?_) fun hb hm H => ?_
   ·refine aw_exit (i := 0) (by kernel_rfl) ?_
    replace A := A.k3 2 0 1
    exact nr hm fun e => .inl ⟨_, _, _, _, _, _, _, _, _, _, rfl, e, _, _, H.ls, A⟩
   refine aw_kn id (aw_sq (aw_sr 6 (at_gl 3 [] 100 0 1 A H fun fr t H => ?_)))
   refine at_L 2 [(102, .bool (x39.at_ == x3))] H fun fr H => aw_if 102 H hm (fun hb hm H => ?_) fun hb hm H => ?_
   ·refine aw_sr 3 ?_
    obtain ⟨x42, hx, hm⟩ := bind_some hm
    obtain ⟨v1, h18, hr, rfl, A1⟩ := ok_rex_walk_fail_sPOI (av := [.ptr (some (bp0, 0)), Ai x3]) hx (A.cut 2)
    replace A := A.g22 A1
    refine at_gc0 2 [] hr H fun fr t H => ?_
    refine at_nl id (aw_exit (i := 0) (by kernel_rfl) ?_)
    replace A := A.k3 2 0 1
    exact nr hm fun e => .inl ⟨_, _, _, _, _, _, _, _, _, _, rfl, e, _, _, H.ls, A⟩
   refine aw_ks 7 id ?_
   obtain ⟨⟨x43, x44, x45⟩, hx, hm⟩ := bind_some hm
   obtain ⟨v1, h19, hr, r11, rfl, A1⟩ := ok_rex_walk_repeats_sPOI (av := [.ptr (some (bp0, 0)), Ai x38]) hx (A.cut 2)
   replace A := A.g22 A1
   refine at_gc1 3 [(106, rowV r1 x1.length)] 109 hr H fun fr t H => ?_
   obtain ⟨h20, e3, A⟩ := A.pL 3 [Ai x43]
   refine at_ln 110 (rowV (some h19.size) (([x43] : List Int).length)) e3 H fun fr t H => ?_
   obtain ⟨hb, hm⟩ := need_some hm
   obtain ⟨r12, h21, hx, A1⟩ := HH.appO (encI .i64) (by decide) A 3 (xs := x1) (ys := ([x43] : List Int)) rfl (row_first A 0 rfl (n := ([x43] : List Int).length) (z := 1) rfl (by decide)) rfl rfl hb
   replace A : HH g h21 [.lst (some h19.size) 3 ([Ai x43]), _, _, .lst r12 3 (lst (eI .i64) (x1 ++ ([x43] : List Int)))] F := A1
   replace A := A.k3 1 2 3
   refine at_l1 111 _ _ H (fun fr => .of (s_app (s := rowS r1 x1.length) (by kernel_rfl) hx)) fun fr t H => ?_
   refine at_se 1 [(0, .ptr (some (bp0, 0))), (3, rowV r12 ((x1 ++ ([x43] : List Int)).length))] H fun fr H => at_nr 1 id (at_sl 1 [(4, .bool false)] H fun fr H => at_nil ?_)
   replace A := A.k3 2 0 1
   exact nx hm ⟨_, _, _, _, _, _, _, _, _, _, _, rfl, _, _, H.ls, A⟩
  refine aw_exit (i := 0) (by kernel_rfl) ?_
  replace A := A.k3 2 0 1
  exact nr hm fun e => .inl ⟨_, _, _, _, _, _, _, _, _, _, rfl, e, _, _, H.ls, A⟩
 clear ho
 clear A
 intro e fr h22 hQ
 rcases hQ with ⟨x12, x13, x14, x15, x16, x17, x18, x19, x20, x21, rfl, rfl, r3, r4, H, A⟩ | hF
 ·show AW _ _ _ _ _ _ _
  refine aw_sr 4 ?_
  replace A := A.k3 1 2 0
  obtain ⟨⟨x46, x47, x48⟩, hx, hm⟩ := bind_some hm
  obtain ⟨v1, h23, hr, r13, rfl, A1⟩ := ok_rex_walk_nest_sPOIO (av := [.ptr (some (bp0, 0)), Ai 2, rowV r3 x12.length]) hx (A.cut 3)
  replace A := A.g33 A1
  refine at_gc1 2 [] 114 hr H fun fr t H => ?_
  refine at_L 1 [(2, Ai x46)] H fun fr H => aw_rt ?_
  obtain ⟨rfl, rfl, rfl⟩ := injC hm
  refine ⟨.inl rfl, Ai x46, rH H, ?_⟩
  replace A := A.d2
  exact ⟨r13, rfl, A⟩
 exact hF.elim
def B_rex_walk_atom_sPO (S : SC_rex_walk_group_sPO) (p0 : S_rex_walk) : Option (Int × S_rex_walk × (List S_tree_Node)) :=
 (ixS p0.s_ p0.at_).bind fun x1 => iteB (x1 == 91) ((M_bracket_Parse p0.s_ p0.at_ false).bind fun (x2, x3, x4) => iteB (x4 != 0) ((M_rex_walk_fail_sPOI p0 p0.at_).bind fun x5 => some ((0 : Int), (⟨x5.s_, x5.at_, x5.extended_, (⟨p0.t_.Nodes, x5.t_.Root⟩ : S_tree_Tree), x5.groups_, x5.depth_, x5.wrong_, x5.full_⟩ : S_rex_walk), p0.t_.Nodes)) ((M_rex_walk_add_sPOR (⟨p0.s_, x3, p0.extended_, p0.t_, p0.groups_, p0.depth_, p0.wrong_, p0.full_⟩ : S_rex_walk) (⟨(1 : Int), (0 : Int), (0 : Int), (0 : Int), (0 : Int), (0 : Int), x2⟩ : S_tree_Node)).bind fun (x6, x7, x8) => some (x6, (⟨x7.s_, x7.at_, x7.extended_, (⟨x8, x7.t_.Root⟩ : S_tree_Tree), x7.groups_, x7.depth_, x7.wrong_, x7.full_⟩ : S_rex_walk), x8))) (iteB (x1 == 46) ((M_class_All).bind fun x9 => (M_rex_walk_add_sPOR (⟨p0.s_, IntKind.i64.wrap (p0.at_ + 1), p0.extended_, p0.t_, p0.groups_, p0.depth_, p0.wrong_, p0.full_⟩ : S_rex_walk) (⟨(1 : Int), (0 : Int), (0 : Int), (0 : Int), (0 : Int), (0 : Int), x9⟩ : S_tree_Node)).bind fun (x10, x11, x12) => some (x10, (⟨x11.s_, x11.at_, x11.extended_, (⟨x12, x11.t_.Root⟩ : S_tree_Tree), x11.groups_, x11.depth_, x11.wrong_, x11.full_⟩ : S_rex_walk), x12)) ((iteB (x1 == 36) ((iteB p0.extended_ (some true) ((M_rex_walk_back_sPO p0).bind fun x15 => some x15) : Option (Bool)).bind fun x14 => some x14) (some false) : Option (Bool)).bind fun x13 => iteB x13 ((M_rex_walk_add_sPOR (⟨p0.s_, IntKind.i64.wrap (p0.at_ + 1), p0.extended_, p0.t_, p0.groups_, p0.depth_, p0.wrong_, p0.full_⟩ : S_rex_walk) (⟨(7 : Int), (0 : Int), (0 : Int), (0 : Int), (0 : Int), (0 : Int), (⟨(0 : Int), (0 : Int), (0 : Int), (0 : Int)⟩ : A4_uint64)⟩ : S_tree_Node)).bind fun (x16, x17, x18) => some (x16, (⟨x17.s_, x17.at_, x17.extended_, (⟨x18, x17.t_.Root⟩ : S_tree_Tree), x17.groups_, x17.depth_, x17.wrong_, x17.full_⟩ : S_rex_walk), x18)) (iteB ((x1 == 94) && p0.extended_) ((M_rex_walk_add_sPOR (⟨p0.s_, IntKind.i64.wrap (p0.at_ + 1), p0.extended_, p0.t_, p0.groups_, p0.depth_, p0.wrong_, p0.full_⟩ : S_rex_walk) (⟨(6 : Int), (0 : Int), (0 : Int), (0 : Int), (0 : Int), (0 : Int), (⟨(0 : Int), (0 : Int), (0 : Int), (0 : Int)⟩ : A4_uint64)⟩ : S_tree_Node)).bind fun (x19, x20, x21) => some (x19, (⟨x20.s_, x20.at_, x20.extended_, (⟨x21, x20.t_.Root⟩ : S_tree_Tree), x20.groups_, x20.depth_, x20.wrong_, x20.full_⟩ : S_rex_walk), x21)) ((M_rex_walk_next_sPOS p0 ([40] : List UInt8)).bind fun (x22, x23) => iteB x22 ((S.M_rex_walk_group_sPO (⟨x23.s_, x23.at_, x23.extended_, (⟨p0.t_.Nodes, x23.t_.Root⟩ : S_tree_Tree), x23.groups_, x23.depth_, x23.wrong_, x23.full_⟩ : S_rex_walk)).bind fun (x24, x25, x26) => some (x24, (⟨x25.s_, x25.at_, x25.extended_, (⟨x26, x25.t_.Root⟩ : S_tree_Tree), x25.groups_, x25.depth_, x25.wrong_, x25.full_⟩ : S_rex_walk), x26)) (iteB (x1 == 92) ((M_rex_walk_escaped_sPO (⟨x23.s_, x23.at_, x23.extended_, (⟨p0.t_.Nodes, x23.t_.Root⟩ : S_tree_Tree), x23.groups_, x23.depth_, x23.wrong_, x23.full_⟩ : S_rex_walk)).bind fun (x27, x28, x29) => some (x27, (⟨x28.s_, x28.at_, x28.extended_, (⟨x29, x28.t_.Root⟩ : S_tree_Tree), x28.groups_, x28.depth_, x28.wrong_, x28.full_⟩ : S_rex_walk), x29)) ((iteB x23.extended_ (((iteB (x1 == 42) (some true) (some (x1 == 43)) : Option ((Bool))).bind fun x31 => iteB x31 (some (.inl ())) ((iteB (x1 == 63) (some true) (some (x1 == 123)) : Option ((Bool))).bind fun x32 => iteB x32 (some (.inl ())) ((iteB (x1 == 124) (some true) (some (x1 == 41)) : Option ((Bool))).bind fun x33 => iteB x33 (some (.inl ())) (some (.inr ())))) : Option ((Unit) ⊕ (Unit))).bind fun o2 => (match o2 with | .inl _ => some (.inr (0 : Int)) | .inr _ => some (.inl ()))) (some (.inl ())) : Option ((Unit) ⊕ (Int))).bind fun o1 => (match o1 with | .inl _ => (M_rex_walk_one_sPOI (⟨x23.s_, IntKind.i64.wrap (x23.at_ + 1), x23.extended_, (⟨p0.t_.Nodes, x23.t_.Root⟩ : S_tree_Tree), x23.groups_, x23.depth_, x23.wrong_, x23.full_⟩ : S_rex_walk) x1).bind fun (x34, x35, x36) => some (x34, (⟨x35.s_, x35.at_, x35.extended_, (⟨x36, x35.t_.Root⟩ : S_tree_Tree), x35.groups_, x35.depth_, x35.wrong_, x35.full_⟩ : S_rex_walk), x36) | .inr x30 => some (x30, (⟨x23.s_, x23.at_, x23.extended_, (⟨p0.t_.Nodes, x23.t_.Root⟩ : S_tree_Tree), x23.groups_, x23.depth_, x23.wrong_, x23.full_⟩ : S_rex_walk), p0.t_.Nodes))))))))
theorem okB_rex_walk_atom_sPO {S : SC_rex_walk_group_sPO} (hS : OkSC_rex_walk_group_sPO S) {p0 bp0 rp0_3 q0 u0 u1} (hm : B_rex_walk_atom_sPO S p0 = some (q0, u0, u1)) (hc : canL (cfg.still 77) av = [.ptr (some (bp0, 0))]) (A : HH g h [.obj bp0 (.cells none 2 (w_rex_walk_3 p0 (rowV rp0_3 p0.t_.Nodes.length))), .lst rp0_3 68 (lst e_S_tree_Node p0.t_.Nodes)] F) : ∃ v h', Runs cfg g h 77 av v h' ∧ ∃ (r'1 : Option Nat), v = Ai q0 ∧ HH g h' [.obj bp0 (.cells none 2 (w_rex_walk_3 u0 (rowV r'1 u1.length))), .lst r'1 68 (lst e_S_tree_Node u1)] F := by
 refine rq1 138 [.tmp 2] hc ?_
 clear hc
 unfold B_rex_walk_atom_sPO at hm
 refine bg 138 [(0, .ptr (some (bp0, 0)))] fun fr H => ?_
 refine aw_sr 1 (at_L 1 [] H fun fr H => aw_sq (aw_dg 1 10 ?_))
 refine at_gl 3 [] 10 0 0 A H fun fr t H => ?_
 refine at_gl 3 [] 14 0 1 A H fun fr t H => ?_
 obtain ⟨x1, hx, hm⟩ := bind_some hm
 refine at_l1 15 (Ab x1) h H (fun fr => .of (s_ixS (by kernel_rfl) hx)) fun fr t H => ?_
 refine at_L 1 [(3, Ab x1)] H fun fr H => aw_sq (aw_block (id := 0) (by kernel_rfl) ?_)
 refine aw_sr 3 (at_L 3 [(16, .bool (x1 == 91))] H fun fr H => aw_if 16 H hm (fun hb hm H => ?_) fun hb hm H => ?_)
 ·refine aw_sq (aw_dw 3 17 [(0, []), (1, []), (2, []), (3, []), (4, []), (5, []), (6, []), (7, []), (13, []), (8, [13]), (9, []), (10, []), (11, []), (12, []), (14, []), (15, []), (16, [])] ?_)
  refine at_sl 3 [(22, .ptr (some (bp0, 0)))] H fun fr H => at_t1 23 (.str p0.s_) h [(3, bp0)] (g.prot) H (fun fr => .of (s_ld (by kernel_rfl) (A.l1 0 0))) (fun fr H => ?_)
  refine at_sl 3 [(26, .ptr (some (bp0, 1)))] H fun fr H => at_t1 27 (Ai p0.at_) h [(7, bp0), (3, bp0)] (g.prot) H (fun fr => .of (s_ld (by kernel_rfl) (A.l1 0 1))) (fun fr H => ?_)
  obtain ⟨h1, e1, A⟩ := A.pu (.cells none 2 [Au 0, Au 0, Au 0, Au 0])
  refine at_t1 4 (.ptr (some (h.size, 0))) h1 [(13, h.size), (7, bp0), (3, bp0)] (g.prot) H (fun fr => .of (s_n' (by kernel_rfl) (congrArg some e1.symm))) (fun fr H => ?_)
  have A1 := A.prot2 0 (pr := [h.size]) (.cons 0 rfl (by simp [Ck.ids]) .nil)
  obtain ⟨⟨x2, x3, x4⟩, hx, hm⟩ := bind_some hm
  obtain ⟨v1, h2, hr, rfl, A1⟩ := ok_bracket_Parse (av := [.str p0.s_, Ai p0.at_, .bool false]) hx A1
  replace A : HH g h2 [.obj h.size (.cells none 2 [Au (0 : Int), Au (0 : Int), Au (0 : Int), Au (0 : Int)]), _, _] F := A.glueP (n := 0) A1
  refine at_t1 28 (.tuple [.agg (e_A4_uint64 x2), Ai x3, Ai x4]) h2 [(13, h.size), (7, bp0), (3, bp0)] (h.size :: g.prot) H (fun fr => Steps.call (by kernel_rfl) hr) (fun fr H => ?_)
  refine at_sl 4 [(29, .agg (e_A4_uint64 x2)), (30, Ai x3), (31, Ai x4)] H fun fr H => ?_
  obtain ⟨h3, hx, A⟩ := A.s0 0 (e_A4_uint64 x2) [_, _, _, _]
  refine at_t0 (.tuple []) h3 [(13, h.size), (7, bp0), (3, bp0)] (g.prot) H (fun fr => .of (s_stG (by kernel_rfl) (stG_st hx rfl))) (fun fr H => ?_)
  refine at_L 2 [(5, Ai x3), (6, Ai x4)] H fun fr H => aw_sq (aw_sr 2 (at_L 2 [(33, .bool (x4 != 0))] H fun fr H => aw_if 33 H hm (fun hb hm H => ?_) fun hb hm H => ?_))
  ·refine aw_sr 6 (at_gl 4 [(34, .ptr (some (bp0, 0)))] 38 1 1 A H fun fr t H => ?_)
   replace A := A.k3 1 2 0
   obtain ⟨x5, hx, hm⟩ := bind_some hm
   obtain ⟨v1, h4, hr, rfl, A1⟩ := ok_rex_walk_fail_sPOI (av := [.ptr (some (bp0, 0)), Ai p0.at_]) hx (A.cut 2)
   replace A := A.g22 A1
   refine at_lc0 hr H fun fr t H => ?_
   refine at_ns 1 id (at_L 1 [(2, Ai 0)] H fun fr H => aw_rt ?_)
   obtain ⟨rfl, rfl, rfl⟩ := injC hm
   refine ⟨.inl rfl, Ai 0, rH H, ?_⟩
   replace A := A.d2
   exact ⟨rp0_3, rfl, A⟩
  refine aw_ks 5 id ?_
  obtain ⟨h5, hx, A⟩ := A.s1 1 [Ai x3] [_, _, _, _, _, _, _, _, _]
  refine at_gs 4 [] hx H fun fr t H => ?_
  refine at_ns 5 id (at_g1 1 [(44, .ptr (some (bp0, 0)))] 45 _ _ H (fun fr => .of (s_ldA (by kernel_rfl) (A.ldA 0 rfl (o := 0) (n := 4) ⟨Nat.le_of_ble_eq_true rfl, rfl⟩))) fun fr t H => ?_)
  replace A := A.k3 1 2 0
  obtain ⟨⟨x6, x7, x8⟩, hx, hm⟩ := bind_some hm
  obtain ⟨v1, h6, hr, r1, rfl, A1⟩ := ok_rex_walk_add_sPOR (av := [.ptr (some (bp0, 0)), .agg [Ai 1, Ai 0, Ai 0, Ai 0, Ai 0, Ai 0, Au x2.w0, Au x2.w1, Au x2.w2, Au x2.w3]]) hx (A.cut 2)
  replace A := A.g22 A1
  refine at_gc1 1 [] 47 hr H fun fr t H => ?_
  refine at_L 1 [(2, Ai x6)] H fun fr H => aw_rt ?_
  obtain ⟨rfl, rfl, rfl⟩ := injC hm
  refine ⟨.inl rfl, Ai x6, rH H, ?_⟩
  replace A := A.d2
  exact ⟨r1, rfl, A⟩
 refine aw_sr 3 (at_L 3 [(48, .bool (x1 == 46))] H fun fr H => aw_if 48 H hm (fun hb hm H => ?_) fun hb hm H => ?_)
 ·refine aw_sr 8 (at_gl 3 [(51, .ptr (some (bp0, 0)))] 54 0 1 A H fun fr t H => ?_)
  obtain ⟨h7, hx, A⟩ := A.s0 1 [Ai (IntKind.i64.wrap (p0.at_ + 1))] [_, _, _, _, _, _, _, _, _]
  refine at_gs 3 [] hx H fun fr t H => ?_
  refine at_ns 5 id ?_
  obtain ⟨x9, hx, hm⟩ := bind_some hm
  obtain ⟨v1, h8, hr, rfl, A1⟩ := ok_class_All (av := []) hx (A.cut 0)
  replace A := A.g00 A1
  refine at_gc1 1 [(58, .ptr (some (bp0, 0)))] 59 hr H fun fr t H => ?_
  obtain ⟨⟨x10, x11, x12⟩, hx, hm⟩ := bind_some hm
  obtain ⟨v1, h9, hr, r2, rfl, A1⟩ := ok_rex_walk_add_sPOR (av := [.ptr (some (bp0, 0)), .agg [Ai 1, Ai 0, Ai 0, Ai 0, Ai 0, Ai 0, Au x9.w0, Au x9.w1, Au x9.w2, Au x9.w3]]) hx (A.cut 2)
  replace A := A.g22 A1
  refine at_gc1 1 [] 61 hr H fun fr t H => ?_
  refine at_L 1 [(2, Ai x10)] H fun fr H => aw_rt ?_
  obtain ⟨rfl, rfl, rfl⟩ := injC hm
  exact ⟨.inl rfl, _, rH H, _, rfl, A⟩
 refine aw_sr 13 (at_sl 3 [(65, .bool (x1 == 36))] H fun fr H => ?_)
 obtain ⟨x13, ho, hm⟩ := bind_some hm
 refine at_cl 9 (fun fr' h' => Has fr' 138 [(0, .ptr (some (bp0, 0))), (3, Ab x1), (74, .bool x13)] ∧ HH g h' [.obj bp0 (.cells none 2 (w_rex_walk_3 p0 (rowV rp0_3 p0.t_.Nodes.length))), .lst rp0_3 68 (lst e_S_tree_Node p0.t_.Nodes)] F) ?_ ?_
 ·rcases iteB_some ho with ⟨hb, hm⟩ | ⟨hb, hm⟩
  ·replace H := H.kn 65 hb
   refine at_gl 3 [] 69 0 2 A H fun fr t H => ?_
   refine at_sl 1 [(70, .bool p0.extended_)] H fun fr H => ?_
   obtain ⟨x14, ho, hm⟩ := bind_some hm
   refine at_cl 3 (fun fr' h' => Has fr' 138 [(0, .ptr (some (bp0, 0))), (3, Ab x1), (65, .bool true), (73, .bool x14)] ∧ HH g h' [.obj bp0 (.cells none 2 (w_rex_walk_3 p0 (rowV rp0_3 p0.t_.Nodes.length))), .lst rp0_3 68 (lst e_S_tree_Node p0.t_.Nodes)] F) ?_ ?_
   ·rcases iteB_some ho with ⟨hb, hm⟩ | ⟨hb, hm⟩
    ·replace H := H.kn 70 hb
     refine at_sl 3 [(73, .bool true)] H fun fr H => ?_
     obtain rfl := injA hm
     exact at_nil ⟨H.ls, A⟩
    replace H := H.kn 70 hb
    obtain ⟨x15, hx, hm⟩ := bind_some hm
    obtain ⟨v1, h12, hr, rfl, A1⟩ := ok_rex_walk_back_sPO (av := [.ptr (some (bp0, 0))]) hx (A.cut 2)
    replace A := A.g22 A1
    refine at_gc1 1 [] 72 hr H fun fr t H => ?_
    refine at_sl 1 [(73, .bool x15)] H fun fr H => ?_
    obtain rfl := injA hm
    exact at_nil ⟨H.ls, A⟩
   clear A
   intro t fr h11 hK
   obtain ⟨H, A⟩ := hK
   refine at_sl 1 [(74, .bool x14)] H fun fr H => ?_
   obtain rfl := injA hm
   exact at_nil ⟨H.ls, A⟩
  replace H := H.kn 65 hb
  refine at_sl 9 [(74, .bool false)] H fun fr H => ?_
  obtain rfl := injA hm
  exact at_nil ⟨H.ls, A⟩
 clear A
 intro t fr h10 hK
 obtain ⟨H, A⟩ := hK
 refine at_L 1 [(62, .bool x13)] H fun fr H => aw_if 62 H hm (fun hb hm H => ?_) fun hb hm H => ?_
 ·refine aw_sr 8 (at_gl 3 [(75, .ptr (some (bp0, 0)))] 78 0 1 A H fun fr t H => ?_)
  obtain ⟨h13, hx, A⟩ := A.s0 1 [Ai (IntKind.i64.wrap (p0.at_ + 1))] [_, _, _, _, _, _, _, _, _]
  refine at_gs 3 [] hx H fun fr t H => ?_
  refine at_ns 4 id ?_
  obtain ⟨⟨x16, x17, x18⟩, hx, hm⟩ := bind_some hm
  obtain ⟨v1, h14, hr, r3, rfl, A1⟩ := ok_rex_walk_add_sPOR (av := [.ptr (some (bp0, 0)), .agg [Ai 7, Ai 0, Ai 0, Ai 0, Ai 0, Ai 0, Au 0, Au 0, Au 0, Au 0]]) hx (A.cut 2)
  replace A := A.g22 A1
  refine at_gc1 2 [] 84 hr H fun fr t H => ?_
  refine at_L 1 [(2, Ai x16)] H fun fr H => aw_rt ?_
  obtain ⟨rfl, rfl, rfl⟩ := injC hm
  exact ⟨.inl rfl, _, rH H, _, rfl, A⟩
 refine aw_sr 9 (at_sl 3 [(88, .bool (x1 == 94))] H fun fr H => at_cl 5 (fun fr' h' => h10 = h' ∧ Has fr' 138 [(0, .ptr (some (bp0, 0))), (3, Ab x1), (93, .bool ((x1 == 94) && p0.extended_))]) ?_ ?_)
 ·cases hb : (x1 == 94 : Bool) with
  | true =>
   replace H := H.kn 88 hb
   refine at_gl 3 [] 92 0 2 A H fun fr t H => ?_
   exact at_sl 1 [(93, .bool p0.extended_)] H fun fr H => at_zb H hb
  | false =>
   replace H := H.kn 88 hb
   exact at_sl 5 [(93, .bool false)] H fun fr H => at_zb H hb
 intro t fr h' hK
 obtain ⟨e, H⟩ := hK
 subst e
 refine at_L 1 [(85, .bool ((x1 == 94) && p0.extended_))] H fun fr H => aw_if 85 H hm (fun hb hm H => ?_) fun hb hm H => ?_
 ·refine aw_sr 8 (at_gl 3 [(94, .ptr (some (bp0, 0)))] 97 0 1 A H fun fr t H => ?_)
  obtain ⟨h15, hx, A⟩ := A.s0 1 [Ai (IntKind.i64.wrap (p0.at_ + 1))] [_, _, _, _, _, _, _, _, _]
  refine at_gs 3 [] hx H fun fr t H => ?_
  refine at_ns 4 id ?_
  obtain ⟨⟨x19, x20, x21⟩, hx, hm⟩ := bind_some hm
  obtain ⟨v1, h16, hr, r4, rfl, A1⟩ := ok_rex_walk_add_sPOR (av := [.ptr (some (bp0, 0)), .agg [Ai 6, Ai 0, Ai 0, Ai 0, Ai 0, Ai 0, Au 0, Au 0, Au 0, Au 0]]) hx (A.cut 2)
  replace A := A.g22 A1
  refine at_gc1 2 [] 103 hr H fun fr t H => ?_
  refine at_L 1 [(2, Ai x19)] H fun fr H => aw_rt ?_
  obtain ⟨rfl, rfl, rfl⟩ := injC hm
  exact ⟨.inl rfl, _, rH H, _, rfl, A⟩
 refine aw_sr 3 ?_
 obtain ⟨⟨x22, x23⟩, hx, hm⟩ := bind_some hm
 obtain ⟨v1, h17, hr, rfl, A1⟩ := ok_rex_walk_next_sPOS (av := [.ptr (some (bp0, 0)), .str ([40] : List UInt8)]) hx (A.cut 2)
 replace A := A.g22 A1
 refine at_gc1 1 [] 106 hr H fun fr t H => ?_
 refine at_L 1 [(104, .bool x22)] H fun fr H => aw_if 104 H hm (fun hb hm H => ?_) fun hb hm H => ?_
 ·refine aw_sr 3 ?_
  have A1 := A.cut 2
  obtain ⟨⟨x24, x25, x26⟩, hx, hm⟩ := bind_some hm
  obtain ⟨v1, h18, hr, r5, rfl, A1⟩ := hS.ok_rex_walk_group_sPO (av := [.ptr (some (bp0, 0))]) hx (by kernel_rfl) A1
  replace A := A.g22 A1
  refine at_gc1 1 [] 108 hr H fun fr t H => ?_
  refine at_L 1 [(2, Ai x24)] H fun fr H => aw_rt ?_
  obtain ⟨rfl, rfl, rfl⟩ := injC hm
  exact ⟨.inl rfl, _, rH H, _, rfl, A⟩
 refine aw_sr 3 (at_L 3 [(109, .bool (x1 == 92))] H fun fr H => aw_if 109 H hm (fun hb hm H => ?_) fun hb hm H => ?_)
 ·refine aw_sr 3 ?_
  obtain ⟨⟨x27, x28, x29⟩, hx, hm⟩ := bind_some hm
  obtain ⟨v1, h19, hr, r6, rfl, A1⟩ := ok_rex_walk_escaped_sPO (av := [.ptr (some (bp0, 0))]) hx (A.cut 2)
  replace A := A.g22 A1
  refine at_gc1 1 [] 113 hr H fun fr t H => ?_
  refine at_L 1 [(2, Ai x27)] H fun fr H => aw_rt ?_
  obtain ⟨rfl, rfl, rfl⟩ := injC hm
  exact ⟨.inl rfl, _, rH H, _, rfl, A⟩
 refine aw_kn id (aw_sq ?_)
 obtain ⟨o1, ho, hm⟩ := bind_some hm
 refine aw_mono (Q' := fun e fr' h' => (e = .normal ∧ .inl () = o1 ∧ Has fr' 138 [(0, .ptr (some (bp0, 0))), (3, Ab x1)] ∧ HH g h' [.obj bp0 (.cells none 2 (w_rex_walk_3 x23 (rowV rp0_3 p0.t_.Nodes.length))), .lst rp0_3 68 (lst e_S_tree_Node p0.t_.Nodes)] F) ∨ (∃ x30, e = .ret ∧ .inr x30 = o1 ∧ Has fr' 138 [(2, Ai x30)] ∧ HH g h' [.obj bp0 (.cells none 2 (w_rex_walk_3 x23 (rowV rp0_3 p0.t_.Nodes.length))), .lst rp0_3 68 (lst e_S_tree_Node p0.t_.Nodes)] F) ∨ False) ?_ ?_
 ·replace hm := ho
  clear ho
  refine aw_sr 4 (at_gl 3 [] 117 0 2 A H fun fr t H => ?_)
  refine at_nl id (aw_if 117 H hm (fun hb hm H => ?_) fun hb hm H => ?_)
  ·refine aw_sr 1 (at_L 1 [(118, Ab x1)] H fun fr H => aw_block (id := 1) (by kernel_rfl) ?_)
   refine aw_sq ?_
   obtain ⟨o2, ho, hm⟩ := bind_some hm
   refine aw_mono (Q' := fun e fr' h' => (e = .normal ∧ .inl () = o2 ∧ Has fr' 138 [] ∧ HH g h' [.obj bp0 (.cells none 2 (w_rex_walk_3 x23 (rowV rp0_3 p0.t_.Nodes.length))), .lst rp0_3 68 (lst e_S_tree_Node p0.t_.Nodes)] F) ∨ (e = .exit 1 ∧ .inr () = o2 ∧ Has fr' 138 [(0, .ptr (some (bp0, 0))), (3, Ab x1)] ∧ HH g h' [.obj bp0 (.cells none 2 (w_rex_walk_3 x23 (rowV rp0_3 p0.t_.Nodes.length))), .lst rp0_3 68 (lst e_S_tree_Node p0.t_.Nodes)] F) ∨ False) ?_ ?_
   ·replace hm := ho
    clear ho
    refine aw_block (id := 4) (by kernel_rfl) ?_
    refine aw_block (id := 3) (by kernel_rfl) ?_
    refine aw_block (id := 2) (by kernel_rfl) ?_
    refine aw_sq (aw_sq (aw_sq ?_))
    obtain ⟨o3, ho, hm⟩ := bind_some hm
    refine aw_mono (Q' := fun e fr' h' => (∃ x31, e = .normal ∧ x31 = o3 ∧ Has fr' 138 [(0, .ptr (some (bp0, 0))), (3, Ab x1), (118, Ab x1), (119, .bool x31)] ∧ HH g h' [.obj bp0 (.cells none 2 (w_rex_walk_3 x23 (rowV rp0_3 p0.t_.Nodes.length))), .lst rp0_3 68 (lst e_S_tree_Node p0.t_.Nodes)] F) ∨ False) ?_ ?_
    ·replace hm := ho
     clear ho
     refine aw_sr 2 (at_L 2 [(119, .bool (x1 == 42))] H fun fr H => aw_if 119 H hm (fun hb hm H => ?_) fun hb hm H => ?_)
     ·exact aw_sk (.inl ⟨_, rfl, injA hm, H.ls, A⟩)
     refine aw_rg 2 (at_se 2 [(0, .ptr (some (bp0, 0))), (3, Ab x1), (118, Ab x1), (119, .bool (x1 == 43))] H fun fr H => at_nil ?_)
     exact .inl ⟨_, rfl, injA hm, H.ls, A⟩
    clear ho
    clear A
    intro e fr h20 hQ
    rcases hQ with ⟨x31, rfl, rfl, H, A⟩ | hF
    ·show AW _ _ _ _ _ _ _
     refine aw_if 119 H hm (fun hb hm H => ?_) fun hb hm H => ?_
     ·refine aw_exit (i := 2) (by kernel_rfl) ?_
      exact .inl ⟨rfl, injA hm, H.ls, A⟩
     refine aw_kn id (aw_sq (aw_sq ?_))
     obtain ⟨o4, ho, hm⟩ := bind_some hm
     refine aw_mono (Q' := fun e fr' h' => (∃ x32, e = .normal ∧ x32 = o4 ∧ Has fr' 138 [(0, .ptr (some (bp0, 0))), (3, Ab x1), (118, Ab x1), (122, .bool x32)] ∧ HH g h' [.obj bp0 (.cells none 2 (w_rex_walk_3 x23 (rowV rp0_3 p0.t_.Nodes.length))), .lst rp0_3 68 (lst e_S_tree_Node p0.t_.Nodes)] F) ∨ False) ?_ ?_
     ·replace hm := ho
      clear ho
      refine aw_sr 2 (at_L 2 [(122, .bool (x1 == 63))] H fun fr H => aw_if 122 H hm (fun hb hm H => ?_) fun hb hm H => ?_)
      ·exact aw_sk (.inl ⟨_, rfl, injA hm, H.ls, A⟩)
      refine aw_rg 2 (at_se 2 [(0, .ptr (some (bp0, 0))), (3, Ab x1), (118, Ab x1), (122, .bool (x1 == 123))] H fun fr H => at_nil ?_)
      exact .inl ⟨_, rfl, injA hm, H.ls, A⟩
     clear ho
     clear A
     intro e fr h21 hQ
     rcases hQ with ⟨x32, rfl, rfl, H, A⟩ | hF
     ·show AW _ _ _ _ _ _ _
      refine aw_if 122 H hm (fun hb hm H => ?_) fun hb hm H => ?_
      ·refine aw_exit (i := 3) (by kernel_rfl) ?_
       exact .inl ⟨rfl, injA hm, H.ls, A⟩
      refine aw_kn id (aw_sq ?_)
      obtain ⟨o5, ho, hm⟩ := bind_some hm
      refine aw_mono (Q' := fun e fr' h' => (∃ x33, e = .normal ∧ x33 = o5 ∧ Has fr' 138 [(0, .ptr (some (bp0, 0))), (3, Ab x1), (125, .bool x33)] ∧ HH g h' [.obj bp0 (.cells none 2 (w_rex_walk_3 x23 (rowV rp0_3 p0.t_.Nodes.length))), .lst rp0_3 68 (lst e_S_tree_Node p0.t_.Nodes)] F) ∨ False) ?_ ?_
      ·replace hm := ho
       clear ho
       refine aw_sr 2 (at_L 2 [(125, .bool (x1 == 124))] H fun fr H => aw_if 125 H hm (fun hb hm H => ?_) fun hb hm H => ?_)
       ·exact aw_sk (.inl ⟨_, rfl, injA hm, H.ls, A⟩)
       refine aw_rg 2 (at_se 2 [(0, .ptr (some (bp0, 0))), (3, Ab x1), (125, .bool (x1 == 41))] H fun fr H => at_nil ?_)
       exact .inl ⟨_, rfl, injA hm, H.ls, A⟩
      clear ho
      clear A
      intro e fr h22 hQ
      rcases hQ with ⟨x33, rfl, rfl, H, A⟩ | hF
      ·show AW _ _ _ _ _ _ _
       refine aw_if 125 H hm (fun hb hm H => ?_) fun hb hm H => ?_
       ·refine aw_exit (i := 4) (by kernel_rfl) ?_
        exact .inl ⟨rfl, injA hm, H.ls, A⟩
       refine aw_kn id (aw_exit (i := 1) (by kernel_rfl) ?_)
       exact .inr (.inl ⟨rfl, injA hm, H.ls, A⟩)
      exact hF.elim
     exact hF.elim
    exact hF.elim
   clear ho
   clear A
   intro e fr h23 hQ
   rcases hQ with ⟨rfl, rfl, H, A⟩ | ⟨rfl, rfl, H, A⟩ | hF
   ·show AW _ _ _ _ _ _ _
    refine aw_sq (aw_sr 1 (at_L 1 [(2, Ai 0)] H fun fr H => aw_rt ?_))
    exact .inr (.inl ⟨_, rfl, injA hm, H.ls, A⟩)
   ·exact .inl ⟨rfl, injA hm, H.ls, A⟩
   exact hF.elim
  exact aw_sk (.inl ⟨rfl, injA hm, H.ls, A⟩)
 clear ho
 clear A
 intro e fr h24 hQ
 rcases hQ with ⟨rfl, rfl, H, A⟩ | ⟨x30, rfl, rfl, H, A⟩ | hF
 ·show AW _ _ _ _ _ _ _
  refine aw_sr 8 (at_gl 3 [(128, .ptr (some (bp0, 0)))] 131 0 1 A H fun fr t H => ?_)
  obtain ⟨h25, hx, A⟩ := A.s0 1 [Ai (IntKind.i64.wrap (x23.at_ + 1))] [_, _, _, _, _, _, _, _, _]
  refine at_gs 3 [] hx H fun fr t H => ?_
  refine at_ns 4 id ?_
  obtain ⟨⟨x34, x35, x36⟩, hx, hm⟩ := bind_some hm
  obtain ⟨v1, h26, hr, r7, rfl, A1⟩ := ok_rex_walk_one_sPOI (av := [.ptr (some (bp0, 0)), Ab x1]) hx (A.cut 2)
  replace A := A.g22 A1
  refine at_gc1 2 [] 137 hr H fun fr t H => ?_
  refine at_L 1 [(2, Ai x34)] H fun fr H => aw_rt ?_
  obtain ⟨rfl, rfl, rfl⟩ := injC hm
  exact ⟨.inl rfl, _, rH H, _, rfl, A⟩
 ·obtain ⟨rfl, rfl, rfl⟩ := injC hm
  exact ⟨.inl rfl, _, rH H, _, rfl, A⟩
 exact hF.elim
def rSC_rex_walk_group_sPO : Nat → SC_rex_walk_group_sPO
 | 0 => ⟨fun _ => none, fun _ => none, fun _ => none, fun _ => none⟩
 | n + 1 => ⟨B_rex_walk_group_sPO (rSC_rex_walk_group_sPO n), B_rex_walk_expression_sPO (rSC_rex_walk_group_sPO n), B_rex_walk_branch_sPO (rSC_rex_walk_group_sPO n), B_rex_walk_atom_sPO (rSC_rex_walk_group_sPO n)⟩
theorem okrSC_rex_walk_group_sPO  : ∀ n, OkSC_rex_walk_group_sPO (rSC_rex_walk_group_sPO n)
 | 0 => ⟨fun hm => (by cases hm), fun hm => (by cases hm), fun hm => (by cases hm), fun hm => (by cases hm)⟩
 | n + 1 => ⟨fun hm hc A => okB_rex_walk_group_sPO (okrSC_rex_walk_group_sPO n) hm hc A, fun hm hc A => okB_rex_walk_expression_sPO (okrSC_rex_walk_group_sPO n) hm hc A, fun hm hc A => okB_rex_walk_branch_sPO (okrSC_rex_walk_group_sPO n) hm hc A, fun hm hc A => okB_rex_walk_atom_sPO (okrSC_rex_walk_group_sPO n) hm hc A⟩
def M_rex_walk_group_sPO : S_rex_walk → Option (Int × S_rex_walk × (List S_tree_Node)) := (rSC_rex_walk_group_sPO bigF).M_rex_walk_group_sPO
theorem ok_rex_walk_group_sPO {p0 bp0 rp0_3 q0 u0 u1} (hm : M_rex_walk_group_sPO p0 = some (q0, u0, u1)) (A : HH g h [.obj bp0 (.cells none 2 (w_rex_walk_3 p0 (rowV rp0_3 p0.t_.Nodes.length))), .lst rp0_3 68 (lst e_S_tree_Node p0.t_.Nodes)] F) (hc : canL (cfg.still 95) av = [.ptr (some (bp0, 0))] := by kernel_rfl) : ∃ v h', Runs cfg g h 95 av v h' ∧ ∃ (r'1 : Option Nat), v = Ai q0 ∧ HH g h' [.obj bp0 (.cells none 2 (w_rex_walk_3 u0 (rowV r'1 u1.length))), .lst r'1 68 (lst e_S_tree_Node u1)] F := (okrSC_rex_walk_group_sPO bigF).ok_rex_walk_group_sPO hm hc A
def M_rex_walk_expression_sPO : S_rex_walk → Option (Int × S_rex_walk × (List S_tree_Node)) := (rSC_rex_walk_group_sPO bigF).M_rex_walk_expression_sPO
theorem ok_rex_walk_expression_sPO {p0 bp0 rp0_3 q0 u0 u1} (hm : M_rex_walk_expression_sPO p0 = some (q0, u0, u1)) (A : HH g h [.obj bp0 (.cells none 2 (w_rex_walk_3 p0 (rowV rp0_3 p0.t_.Nodes.length))), .lst rp0_3 68 (lst e_S_tree_Node p0.t_.Nodes)] F) (hc : canL (cfg.still 36) av = [.ptr (some (bp0, 0))] := by kernel_rfl) : ∃ v h', Runs cfg g h 36 av v h' ∧ ∃ (r'1 : Option Nat), v = Ai q0 ∧ HH g h' [.obj bp0 (.cells none 2 (w_rex_walk_3 u0 (rowV r'1 u1.length))), .lst r'1 68 (lst e_S_tree_Node u1)] F := (okrSC_rex_walk_group_sPO bigF).ok_rex_walk_expression_sPO hm hc A
def M_rex_walk_branch_sPO : S_rex_walk → Option (Int × S_rex_walk × (List S_tree_Node)) := (rSC_rex_walk_group_sPO bigF).M_rex_walk_branch_sPO
theorem ok_rex_walk_branch_sPO {p0 bp0 rp0_3 q0 u0 u1} (hm : M_rex_walk_branch_sPO p0 = some (q0, u0, u1)) (A : HH g h [.obj bp0 (.cells none 2 (w_rex_walk_3 p0 (rowV rp0_3 p0.t_.Nodes.length))), .lst rp0_3 68 (lst e_S_tree_Node p0.t_.Nodes)] F) (hc : canL (cfg.still 56) av = [.ptr (some (bp0, 0))] := by kernel_rfl) : ∃ v h', Runs cfg g h 56 av v h' ∧ ∃ (r'1 : Option Nat), v = Ai q0 ∧ HH g h' [.obj bp0 (.cells none 2 (w_rex_walk_3 u0 (rowV r'1 u1.length))), .lst r'1 68 (lst e_S_tree_Node u1)] F := (okrSC_rex_walk_group_sPO bigF).ok_rex_walk_branch_sPO hm hc A
def M_rex_walk_atom_sPO : S_rex_walk → Option (Int × S_rex_walk × (List S_tree_Node)) := (rSC_rex_walk_group_sPO bigF).M_rex_walk_atom_sPO
theorem ok_rex_walk_atom_sPO {p0 bp0 rp0_3 q0 u0 u1} (hm : M_rex_walk_atom_sPO p0 = some (q0, u0, u1)) (A : HH g h [.obj bp0 (.cells none 2 (w_rex_walk_3 p0 (rowV rp0_3 p0.t_.Nodes.length))), .lst rp0_3 68 (lst e_S_tree_Node p0.t_.Nodes)] F) (hc : canL (cfg.still 77) av = [.ptr (some (bp0, 0))] := by kernel_rfl) : ∃ v h', Runs cfg g h 77 av v h' ∧ ∃ (r'1 : Option Nat), v = Ai q0 ∧ HH g h' [.obj bp0 (.cells none 2 (w_rex_walk_3 u0 (rowV r'1 u1.length))), .lst r'1 68 (lst e_S_tree_Node u1)] F := (okrSC_rex_walk_group_sPO bigF).ok_rex_walk_atom_sPO hm hc A
end
end Go.Av.L
