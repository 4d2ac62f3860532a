/-
  Models of functions, and that the abstract run tells them. Written by lift2.py.
-/
import Derived.Test.YtiodcbipjnmpgaaKCfg
import Derived.Test.YtiodcbipjnmpgaaK0
namespace Go.Av.L
open Go.Av Go.Lib
set_option maxRecDepth 10000
set_option linter.unusedVariables false
set_option linter.unusedSimpArgs false
variable {g : Gd} {h : AHeap} {F : List Ck} {av : List AVal}
noncomputable section
def M_rex_walk_bounds_sPO (p0 : S_rex_walk) : Option (Int × Int × Bool × S_rex_walk) :=
 (M_rex_walk_number_sPO p0).bind fun (x1, x2, x3) => iteB (!x2) (some ((0 : Int), (0 : Int), false, (⟨x3.s_, x3.at_, x3.extended_, (⟨p0.t_.Nodes, x3.t_.Root⟩ : S_tree_Tree), x3.groups_, x3.depth_, x3.wrong_, x3.full_⟩ : S_rex_walk))) (((subS x3.s_ (some x3.at_) none).bind fun x25 => (M_strings_HasPrefix x25 ([44] : List UInt8)).bind fun x26 => iteB x26 ((M_rex_walk_sign_sPOS (⟨x3.s_, IntKind.i64.wrap (x3.at_ + 1), x3.extended_, (⟨p0.t_.Nodes, x3.t_.Root⟩ : S_tree_Tree), x3.groups_, x3.depth_, x3.wrong_, x3.full_⟩ : S_rex_walk) ([125] : List UInt8)).bind fun x27 => iteB (!x27) ((M_rex_walk_number_sPO (⟨x3.s_, IntKind.i64.wrap (x3.at_ + 1), x3.extended_, (⟨p0.t_.Nodes, x3.t_.Root⟩ : S_tree_Tree), x3.groups_, x3.depth_, x3.wrong_, x3.full_⟩ : S_rex_walk)).bind fun (x28, x29, x30) => iteB ((!x29) || (decide (x28 < x1))) (some (.inr (x30.s_, x30.at_, x30.extended_, x30.t_.Root, x30.groups_, x30.depth_, x30.wrong_, x30.full_, (0 : Int), (0 : Int), false))) (some (.inl (x30.s_, x30.at_, x30.extended_, x30.t_.Root, x30.groups_, x30.depth_, x30.wrong_, x30.full_, x1, x28)))) (some (.inl (x3.s_, IntKind.i64.wrap (x3.at_ + 1), x3.extended_, x3.t_.Root, x3.groups_, x3.depth_, x3.wrong_, x3.full_, x1, (-1 : Int))))) (some (.inl (x3.s_, x3.at_, x3.extended_, x3.t_.Root, x3.groups_, x3.depth_, x3.wrong_, x3.full_, x1, x1))) : Option (((List UInt8) × Int × Bool × Int × Int × Int × Int × Bool × Int × Int) ⊕ ((List UInt8) × Int × Bool × Int × Int × Int × Int × Bool × Int × Int × Bool))).bind fun o1 => (match o1 with | .inl (x4, x5, x6, x7, x8, x9, x10, x11, x12, x13) => (M_rex_walk_next_sPOS (⟨x4, x5, x6, (⟨p0.t_.Nodes, x7⟩ : S_tree_Tree), x8, x9, x10, x11⟩ : S_rex_walk) ([125] : List UInt8)).bind fun (x31, x32) => some (x12, x13, x31, (⟨x32.s_, x32.at_, x32.extended_, (⟨p0.t_.Nodes, x32.t_.Root⟩ : S_tree_Tree), x32.groups_, x32.depth_, x32.wrong_, x32.full_⟩ : S_rex_walk)) | .inr (x14, x15, x16, x17, x18, x19, x20, x21, x22, x23, x24) => some (x22, x23, x24, (⟨x14, x15, x16, (⟨p0.t_.Nodes, x17⟩ : S_tree_Tree), x18, x19, x20, x21⟩ : S_rex_walk))))
theorem ok_rex_walk_bounds_sPO {p0 bp0 rp0_3 q0 q1 q2 u0} (hm : M_rex_walk_bounds_sPO p0 = some (q0, q1, q2, u0)) (A : HH g h [.obj bp0 (.cells none 2 (w_rex_walk_3 p0 (rowV rp0_3 p0.t_.Nodes.length))), .lst rp0_3 68 (lst e_S_tree_Node p0.t_.Nodes)] F) (hc : canL (cfg.still 89) av = [.ptr (some (bp0, 0))] := by kernel_rfl) : ∃ v h', Runs cfg g h 89 av v h' ∧ v = .tuple [Ai q0, Ai q1, .bool q2] ∧ HH g h' [.obj bp0 (.cells none 2 (w_rex_walk_3 u0 (rowV rp0_3 p0.t_.Nodes.length))), .lst rp0_3 68 (lst e_S_tree_Node p0.t_.Nodes)] F := by
 refine rq1 49 [.tmp 2, .tmp 3, .tmp 4] hc ?_
 clear hc
 unfold M_rex_walk_bounds_sPO at hm
 refine bg 49 [(0, .ptr (some (bp0, 0)))] fun fr H => ?_
 refine aw_sr 3 (at_L 3 [] H fun fr H => aw_sq (aw_sr 7 ?_))
 obtain ⟨⟨x1, x2, x3⟩, hx, hm⟩ := bind_some hm
 obtain ⟨v1, h1, hr, rfl, A1⟩ := ok_rex_walk_number_sPO (av := [.ptr (some (bp0, 0))]) hx (A.cut 2)
 replace A := A.g22 A1
 refine at_gc1 1 [] 7 hr H fun fr t H => ?_
 refine at_S 5 [(2, Ai x1), (4, .bool x2)] 2 H fun fr H => at_L 2 [(11, .bool (!x2))] H fun fr H => aw_if 11 H hm (fun hb hm H => ?_) fun hb hm H => ?_
 ·refine aw_sr 3 (at_se 3 [(2, Ai 0), (3, Ai 0), (4, .bool false)] H fun fr H => at_nl id (aw_rt ?_))
  obtain ⟨rfl, rfl, rfl, rfl⟩ := injD hm
  exact ⟨.inl rfl, _, rH H, rfl, A⟩
 refine aw_ks 2 id (at_L 2 [(3, Ai x1)] H fun fr H => aw_sq ?_)
 obtain ⟨o1, ho, hm⟩ := bind_some hm
 refine aw_mono (Q' := fun e fr' h' => (∃ x4 x5 x6 x7 x8 x9 x10 x11 x12 x13, e = .normal ∧ .inl (x4, x5, x6, x7, x8, x9, x10, x11, x12, x13) = o1 ∧ Has fr' 49 [(0, .ptr (some (bp0, 0))), (2, Ai x12), (3, Ai x13)] ∧ HH g h' [.obj bp0 (.cells none 2 [.str x4, Ai x5, .bool x6, rowV rp0_3 p0.t_.Nodes.length, Ai x7, Ai x8, Ai x9, Ai x10, .bool x11]), .lst rp0_3 68 (lst e_S_tree_Node p0.t_.Nodes)] F) ∨ (∃ x14 x15 x16 x17 x18 x19 x20 x21 x22 x23 x24, e = .ret ∧ .inr (x14, x15, x16, x17, x18, x19, x20, x21, x22, x23, x24) = o1 ∧ Has fr' 49 [(2, Ai x22), (3, Ai x23), (4, .bool x24)] ∧ HH g h' [.obj bp0 (.cells none 2 [.str x14, Ai x15, .bool x16, rowV rp0_3 p0.t_.Nodes.length, Ai x17, Ai x18, Ai x19, Ai x20, .bool x21]), .lst rp0_3 68 (lst e_S_tree_Node p0.t_.Nodes)] F) ∨ False) ?_ ?_
 ·replace hm := ho
  clear ho
  refine aw_sq (aw_dg 5 10 ?_)
  refine at_gl 3 [] 16 0 0 A H fun fr t H => ?_
  refine at_gl 3 [] 20 0 1 A H fun fr t H => ?_
  obtain ⟨x25, hx, hm⟩ := bind_some hm
  refine at_l1 21 (.str x25) h1 H (fun fr => .of (s_subS (k := .i64) (k' := .i64) (lo := (some x3.at_)) (hi := none) (by kernel_rfl) hx)) fun fr t H => ?_
  obtain ⟨x26, hx, hm⟩ := bind_some hm
  obtain ⟨v1, h2, hr, rfl, A1⟩ := ok_strings_HasPrefix (av := [.str x25, .str ([44] : List UInt8)]) hx (A.cut 0)
  replace A := A.g00 A1
  refine at_lc1 22 hr H fun fr t H => ?_
  refine at_nl id (aw_if 22 H hm (fun hb hm H => ?_) fun hb hm H => ?_)
  ·refine aw_sr 8 (at_gl 3 [(23, .ptr (some (bp0, 0)))] 26 0 1 A H fun fr t H => ?_)
   obtain ⟨h3, hx, A⟩ := A.s0 1 [Ai (IntKind.i64.wrap (x3.at_ + 1))] [_, _, _, _, _, _, _, _, _]
   refine at_gs 3 [] hx H fun fr t H => ?_
   refine at_ns 1 id (at_se 1 [(0, .ptr (some (bp0, 0))), (2, Ai x1), (3, Ai (-1))] H fun fr H => at_ns 3 id ?_)
   obtain ⟨x27, hx, hm⟩ := bind_some hm
   obtain ⟨v1, h4, hr, rfl, A1⟩ := ok_rex_walk_sign_sPOS (av := [.ptr (some (bp0, 0)), .str ([125] : List UInt8)]) hx (A.cut 2)
   replace A := A.g22 A1
   refine at_gc1 1 [] 31 hr H fun fr t H => ?_
   refine at_L 1 [(32, .bool (!x27))] H fun fr H => aw_if 32 H hm (fun hb hm H => ?_) fun hb hm H => ?_
   ·refine aw_sr 7 ?_
    obtain ⟨⟨x28, x29, x30⟩, hx, hm⟩ := bind_some hm
    obtain ⟨v1, h5, hr, rfl, A1⟩ := ok_rex_walk_number_sPO (av := [.ptr (some (bp0, 0))]) hx (A.cut 2)
    replace A := A.g22 A1
    refine at_gc1 1 [] 35 hr H fun fr t H => ?_
    refine at_se 5 [(0, .ptr (some (bp0, 0))), (2, Ai x1), (3, Ai x28), (4, .bool x29)] H fun fr H => at_ns 7 id (at_sl 3 [(40, .bool (!x29))] H fun fr H => at_cl 4 (fun fr' h' => h5 = h' ∧ Has fr' 49 [(0, .ptr (some (bp0, 0))), (2, Ai x1), (3, Ai x28), (44, .bool ((!x29) || (decide (x28 < x1))))]) ?_ ?_)
    ·cases hb : (!x29 : Bool) with
     | true =>
      replace H := H.kn 40 hb
      exact at_sl 4 [(44, .bool true)] H fun fr H => at_zb H hb
     | false =>
      replace H := H.kn 40 hb
      exact at_sl 4 [(44, .bool (decide (x28 < x1)))] H fun fr H => at_zb H hb
    intro t fr h' hK
    obtain ⟨e, H⟩ := hK
    subst e
    refine at_nl id (aw_if 44 H hm (fun hb hm H => ?_) fun hb hm H => ?_)
    ·refine aw_sr 3 (at_se 3 [(2, Ai 0), (3, Ai 0), (4, .bool false)] H fun fr H => at_nl id (aw_rt ?_))
     exact .inr (.inl ⟨_, _, _, _, _, _, _, _, _, _, _, rfl, injA hm, H.ls, A⟩)
    exact aw_sk (.inl ⟨_, _, _, _, _, _, _, _, _, _, rfl, injA hm, H.ls, A⟩)
   exact aw_sk (.inl ⟨_, _, _, _, _, _, _, _, _, _, rfl, injA hm, H.ls, A⟩)
  exact aw_sk (.inl ⟨_, _, _, _, _, _, _, _, _, _, rfl, injA hm, H.ls, A⟩)
 clear ho
 clear A
 intro e fr h6 hQ
 rcases hQ with ⟨x4, x5, x6, x7, x8, x9, x10, x11, x12, x13, rfl, rfl, H, A⟩ | ⟨x14, x15, x16, x17, x18, x19, x20, x21, x22, x23, x24, rfl, rfl, H, A⟩ | hF
 ·show AW _ _ _ _ _ _ _
  refine aw_sr 7 ?_
  obtain ⟨⟨x31, x32⟩, hx, hm⟩ := bind_some hm
  obtain ⟨v1, h7, hr, rfl, A1⟩ := ok_rex_walk_next_sPOS (av := [.ptr (some (bp0, 0)), .str ([125] : List UInt8)]) hx (A.cut 2)
  replace A := A.g22 A1
  refine at_gc1 3 [(45, Ai x12), (46, Ai x13)] 48 hr H fun fr t H => ?_
  refine at_se 3 [(2, Ai x12), (3, Ai x13), (4, .bool x31)] H fun fr H => at_nl id (aw_rt ?_)
  obtain ⟨rfl, rfl, rfl, rfl⟩ := injD hm
  exact ⟨.inl rfl, _, rH H, rfl, A⟩
 ·obtain ⟨rfl, rfl, rfl, rfl⟩ := injD hm
  exact ⟨.inl rfl, _, rH H, rfl, A⟩
 exact hF.elim
def M_rex_walk_repeats_sPOI_L0 (s : (List UInt8) × Int × Bool × Int × Int × Int × Int × Bool × (List S_tree_Node) × Int) : Option (((List UInt8) × Int × Bool × Int × Int × Int × Int × Bool × (List S_tree_Node) × Int) ⊕ (((List UInt8) × Int × Bool × Int × Int × Int × Int × Bool × (List S_tree_Node) × Int) ⊕ ((List UInt8) × Int × Bool × Int × Int × Int × Int × Bool × (List S_tree_Node) × Int))) :=
 match s with
 | (x1, x2, x3, x4, x5, x6, x7, x8, x9, x10) => (M_rex_walk_ok_sPO (⟨x1, x2, x3, (⟨x9, x4⟩ : S_tree_Tree), x5, x6, x7, x8⟩ : S_rex_walk)).bind fun x31 => iteB x31 (((subS x1 (some x2) none).bind fun x51 => (M_strings_HasPrefix x51 ([42] : List UInt8)).bind fun x52 => iteB x52 (some (.inl (x1, IntKind.i64.wrap (x2 + 1), x3, x4, x5, x6, x7, x8, (0 : Int), (-1 : Int)))) ((M_rex_walk_next_sPOS (⟨x1, x2, x3, (⟨x9, x4⟩ : S_tree_Tree), x5, x6, x7, x8⟩ : S_rex_walk) ([43] : List UInt8)).bind fun (x53, x54) => iteB x53 (some (.inl (x54.s_, x54.at_, x54.extended_, x54.t_.Root, x54.groups_, x54.depth_, x54.wrong_, x54.full_, (1 : Int), (-1 : Int)))) ((M_rex_walk_next_sPOS (⟨x54.s_, x54.at_, x54.extended_, (⟨x9, x54.t_.Root⟩ : S_tree_Tree), x54.groups_, x54.depth_, x54.wrong_, x54.full_⟩ : S_rex_walk) ([63] : List UInt8)).bind fun (x55, x56) => iteB x55 (some (.inl (x56.s_, x56.at_, x56.extended_, x56.t_.Root, x56.groups_, x56.depth_, x56.wrong_, x56.full_, (0 : Int), (1 : Int)))) ((M_rex_walk_next_sPOS (⟨x56.s_, x56.at_, x56.extended_, (⟨x9, x56.t_.Root⟩ : S_tree_Tree), x56.groups_, x56.depth_, x56.wrong_, x56.full_⟩ : S_rex_walk) ([123] : List UInt8)).bind fun (x57, x58) => iteB x57 ((M_rex_walk_bounds_sPO (⟨x58.s_, x58.at_, x58.extended_, (⟨x9, x58.t_.Root⟩ : S_tree_Tree), x58.groups_, x58.depth_, x58.wrong_, x58.full_⟩ : S_rex_walk)).bind fun (x59, x60, x61, x62) => iteB (!x61) ((M_rex_walk_fail_sPOI (⟨x62.s_, x62.at_, x62.extended_, (⟨x9, x62.t_.Root⟩ : S_tree_Tree), x62.groups_, x62.depth_, x62.wrong_, x62.full_⟩ : S_rex_walk) x2).bind fun x63 => some (.inr (x63.s_, x63.at_, x63.extended_, x63.t_.Root, x63.groups_, x63.depth_, x63.wrong_, x63.full_, x10))) (some (.inl (x62.s_, x62.at_, x62.extended_, x62.t_.Root, x62.groups_, x62.depth_, x62.wrong_, x62.full_, x59, x60)))) (some (.inr (x58.s_, x58.at_, x58.extended_, x58.t_.Root, x58.groups_, x58.depth_, x58.wrong_, x58.full_, x10)))))) : Option (((List UInt8) × Int × Bool × Int × Int × Int × Int × Bool × Int × Int) ⊕ ((List UInt8) × Int × Bool × Int × Int × Int × Int × Bool × Int))).bind fun o2 => (match o2 with | .inl (x32, x33, x34, x35, x36, x37, x38, x39, x40, x41) => (M_rex_walk_add_sPOR (⟨x32, x33, x34, (⟨x9, x35⟩ : S_tree_Tree), x36, x37, x38, x39⟩ : S_rex_walk) (⟨(4 : Int), x10, (0 : Int), x40, x41, (0 : Int), (⟨(0 : Int), (0 : Int), (0 : Int), (0 : Int)⟩ : A4_uint64)⟩ : S_tree_Node)).bind fun (x64, x65, x66) => some (.inl (x65.s_, x65.at_, x65.extended_, x65.t_.Root, x65.groups_, x65.depth_, x65.wrong_, x65.full_, x66, x64)) | .inr (x42, x43, x44, x45, x46, x47, x48, x49, x50) => some (.inr (.inr (x42, x43, x44, x45, x46, x47, x48, x49, x9, x50))))) (some (.inr (.inl (x1, x2, x3, x4, x5, x6, x7, x8, x9, x10))))
def M_rex_walk_repeats_sPOI (p0 : S_rex_walk) (p1 : Int) : Option (Int × S_rex_walk × (List S_tree_Node)) :=
 (loop (M_rex_walk_repeats_sPOI_L0) (p0.s_, p0.at_, p0.extended_, p0.t_.Root, p0.groups_, p0.depth_, p0.wrong_, p0.full_, p0.t_.Nodes, p1)).bind fun o1 => (match o1 with | .inl (x11, x12, x13, x14, x15, x16, x17, x18, x19, x20) => some (x20, (⟨x11, x12, x13, (⟨x19, x14⟩ : S_tree_Tree), x15, x16, x17, x18⟩ : S_rex_walk), x19) | .inr (x21, x22, x23, x24, x25, x26, x27, x28, x29, x30) => some (x30, (⟨x21, x22, x23, (⟨x29, x24⟩ : S_tree_Tree), x25, x26, x27, x28⟩ : S_rex_walk), x29))
theorem ok_rex_walk_repeats_sPOI {p0 p1 bp0 rp0_3 q0 u0 u1} (hm : M_rex_walk_repeats_sPOI p0 p1 = some (q0, u0, u1)) (A : HH g h [.obj bp0 (.cells none 2 (w_rex_walk_3 p0 (rowV rp0_3 p0.t_.Nodes.length))), .lst rp0_3 68 (lst e_S_tree_Node p0.t_.Nodes)] F) (hc : canL (cfg.still 74) av = [.ptr (some (bp0, 0)), Ai p1] := by kernel_rfl) : ∃ v h', Runs cfg g h 74 av v h' ∧ ∃ (r'1 : Option Nat), v = Ai q0 ∧ HH g h' [.obj bp0 (.cells none 2 (w_rex_walk_3 u0 (rowV r'1 u1.length))), .lst r'1 68 (lst e_S_tree_Node u1)] F := by
 refine rq1 62 [.tmp 4] hc ?_
 clear hc
 unfold M_rex_walk_repeats_sPOI at hm
 refine bg 62 [(0, .ptr (some (bp0, 0))), (1, Ai p1)] fun fr H => ?_
 refine aw_sr 1 (at_L 1 [] H fun fr H => aw_sq (aw_block (id := 0) (by kernel_rfl) ?_))
 obtain ⟨o1, ho, hm⟩ := bind_some hm
 refine aw_mono (Q' := fun e fr' h' => (∃ x11 x12 x13 x14 x15 x16 x17 x18 x19 x20, e = .exit 0 ∧ .inl (x11, x12, x13, x14, x15, x16, x17, x18, x19, x20) = o1 ∧ ∃ r2, Has fr' 62 [(1, Ai x20)] ∧ HH g h' [.obj bp0 (.cells none 2 [.str x11, Ai x12, .bool x13, rowV r2 x19.length, Ai x14, Ai x15, Ai x16, Ai x17, .bool x18]), .lst r2 68 (lst e_S_tree_Node x19)] F) ∨ (∃ x21 x22 x23 x24 x25 x26 x27 x28 x29 x30, e = .ret ∧ .inr (x21, x22, x23, x24, x25, x26, x27, x28, x29, x30) = o1 ∧ ∃ r3, Has fr' 62 [(4, Ai x30)] ∧ HH g h' [.obj bp0 (.cells none 2 [.str x21, Ai x22, .bool x23, rowV r3 x29.length, Ai x24, Ai x25, Ai x26, Ai x27, .bool x28]), .lst r3 68 (lst e_S_tree_Node x29)] F) ∨ False) ?_ ?_
 ·refine aw_loop (by kernel_rfl) (fun (s : (List UInt8) × Int × Bool × Int × Int × Int × Int × Bool × (List S_tree_Node) × Int) fr' h' => ∃ x1 x2 x3 x4 x5 x6 x7 x8 x9 x10, (x1, x2, x3, x4, x5, x6, x7, x8, x9, x10) = s ∧ ∃ r1, Has fr' 62 [(0, .ptr (some (bp0, 0))), (1, Ai x10)] ∧ HH g h' [.obj bp0 (.cells none 2 [.str x1, Ai x2, .bool x3, rowV r1 x9.length, Ai x4, Ai x5, Ai x6, Ai x7, .bool x8]), .lst r1 68 (lst e_S_tree_Node x9)] F) ho ⟨_, _, _, _, _, _, _, _, _, _, rfl, rp0_3, H.ls, A⟩ ?_
  clear ho hm H A
  intro s q fr h1 hI hm
  obtain ⟨x1, x2, x3, x4, x5, x6, x7, x8, x9, x10, rfl, r1, H, A⟩ := hI
  unfold M_rex_walk_repeats_sPOI_L0 at hm
  refine aw_sq (aw_sr 2 ?_)
  obtain ⟨x31, hx, hm⟩ := bind_some hm
  obtain ⟨v1, h2, hr, rfl, A1⟩ := ok_rex_walk_ok_sPO (av := [.ptr (some (bp0, 0))]) hx (A.cut 2)
  replace A := A.g22 A1
  refine at_gc1 1 [] 10 hr H fun fr t H => ?_
  refine at_nl id (aw_if 10 H hm (fun hb hm H => ?_) fun hb hm H => ?_)
  ·refine aw_kn id (aw_block (id := 1) (by kernel_rfl) ?_)
   refine aw_sr 5 (at_gl 3 [] 14 0 1 A H fun fr t H => ?_)
   refine at_S 1 [(5, Ai x2)] 2 H fun fr H => at_L 2 [(6, Ai 0), (7, Ai (-1))] H fun fr H => aw_sq ?_
   obtain ⟨o2, ho, hm⟩ := bind_some hm
   refine aw_mono (Q' := fun e fr' h' => (∃ x32 x33 x34 x35 x36 x37 x38 x39 x40 x41, e = .normal ∧ .inl (x32, x33, x34, x35, x36, x37, x38, x39, x40, x41) = o2 ∧ Has fr' 62 [(0, .ptr (some (bp0, 0))), (1, Ai x10), (6, Ai x40), (7, Ai x41)] ∧ HH g h' [.obj bp0 (.cells none 2 [.str x32, Ai x33, .bool x34, rowV r1 x9.length, Ai x35, Ai x36, Ai x37, Ai x38, .bool x39]), .lst r1 68 (lst e_S_tree_Node x9)] F) ∨ (∃ x42 x43 x44 x45 x46 x47 x48 x49 x50, e = .ret ∧ .inr (x42, x43, x44, x45, x46, x47, x48, x49, x50) = o2 ∧ Has fr' 62 [(4, Ai x50)] ∧ HH g h' [.obj bp0 (.cells none 2 [.str x42, Ai x43, .bool x44, rowV r1 x9.length, Ai x45, Ai x46, Ai x47, Ai x48, .bool x49]), .lst r1 68 (lst e_S_tree_Node x9)] F) ∨ False) ?_ ?_
   ·replace hm := ho
    clear ho
    refine aw_block (id := 2) (by kernel_rfl) ?_
    refine aw_sq (aw_dg 5 11 ?_)
    refine at_gl 3 [] 20 0 0 A H fun fr t H => ?_
    refine at_gl 3 [] 24 0 1 A H fun fr t H => ?_
    obtain ⟨x51, hx, hm⟩ := bind_some hm
    refine at_l1 25 (.str x51) h2 H (fun fr => .of (s_subS (k := .i64) (k' := .i64) (lo := (some x2)) (hi := none) (by kernel_rfl) hx)) fun fr t H => ?_
    obtain ⟨x52, hx, hm⟩ := bind_some hm
    obtain ⟨v1, h3, hr, rfl, A1⟩ := ok_strings_HasPrefix (av := [.str x51, .str ([42] : List UInt8)]) hx (A.cut 0)
    replace A := A.g00 A1
    refine at_lc1 26 hr H fun fr t H => ?_
    refine at_L 1 [(16, .bool x52)] H fun fr H => aw_if 16 H hm (fun hb hm H => ?_) fun hb hm H => ?_
    ·refine aw_rg 8 (at_gl 3 [(27, .ptr (some (bp0, 0)))] 30 0 1 A H fun fr t H => ?_)
     obtain ⟨h4, hx, A⟩ := A.s0 1 [Ai (IntKind.i64.wrap (x2 + 1))] [_, _, _, _, _, _, _, _, _]
     refine at_gs 3 [] hx H fun fr t H => ?_
     refine at_nil ?_
     exact .inl ⟨_, _, _, _, _, _, _, _, _, _, rfl, injA hm, H.ls, A⟩
    refine aw_sr 3 ?_
    obtain ⟨⟨x53, x54⟩, hx, hm⟩ := bind_some hm
    obtain ⟨v1, h5, hr, rfl, A1⟩ := ok_rex_walk_next_sPOS (av := [.ptr (some (bp0, 0)), .str ([43] : List UInt8)]) hx (A.cut 2)
    replace A := A.g22 A1
    refine at_gc1 1 [] 36 hr H fun fr t H => ?_
    refine at_L 1 [(34, .bool x53)] H fun fr H => aw_if 34 H hm (fun hb hm H => ?_) fun hb hm H => ?_
    ·refine aw_rg 1 (at_se 1 [(0, .ptr (some (bp0, 0))), (1, Ai x10), (6, Ai 1), (7, Ai (-1))] H fun fr H => at_nil ?_)
     exact .inl ⟨_, _, _, _, _, _, _, _, _, _, rfl, injA hm, H.ls, A⟩
    refine aw_sr 3 ?_
    obtain ⟨⟨x55, x56⟩, hx, hm⟩ := bind_some hm
    obtain ⟨v1, h6, hr, rfl, A1⟩ := ok_rex_walk_next_sPOS (av := [.ptr (some (bp0, 0)), .str ([63] : List UInt8)]) hx (A.cut 2)
    replace A := A.g22 A1
    refine at_gc1 1 [] 39 hr H fun fr t H => ?_
    refine at_L 1 [(37, .bool x55)] H fun fr H => aw_if 37 H hm (fun hb hm H => ?_) fun hb hm H => ?_
    ·refine aw_rg 1 (at_se 1 [(0, .ptr (some (bp0, 0))), (1, Ai x10), (6, Ai 0), (7, Ai 1)] H fun fr H => at_nil ?_)
     exact .inl ⟨_, _, _, _, _, _, _, _, _, _, rfl, injA hm, H.ls, A⟩
    refine aw_sr 3 ?_
    obtain ⟨⟨x57, x58⟩, hx, hm⟩ := bind_some hm
    obtain ⟨v1, h7, hr, rfl, A1⟩ := ok_rex_walk_next_sPOS (av := [.ptr (some (bp0, 0)), .str ([123] : List UInt8)]) hx (A.cut 2)
    replace A := A.g22 A1
    refine at_gc1 1 [] 42 hr H fun fr t H => ?_
    refine at_L 1 [(40, .bool x57)] H fun fr H => aw_if 40 H hm (fun hb hm H => ?_) fun hb hm H => ?_
    ·refine aw_sr 1 (at_S 1 [] 9 H fun fr H => ?_)
     obtain ⟨⟨x59, x60, x61, x62⟩, hx, hm⟩ := bind_some hm
     obtain ⟨v1, h8, hr, rfl, A1⟩ := ok_rex_walk_bounds_sPO (av := [.ptr (some (bp0, 0))]) hx (A.cut 2)
     replace A := A.g22 A1
     refine at_gc1 1 [] 45 hr H fun fr t H => ?_
     refine at_se 7 [(0, .ptr (some (bp0, 0))), (1, Ai x10), (5, Ai x2), (6, Ai x59), (7, Ai x60), (8, .bool x61)] H fun fr H => at_ns 2 id (at_L 2 [(50, .bool (!x61))] H fun fr H => aw_if 50 H hm (fun hb hm H => ?_) fun hb hm H => ?_)
     ·refine aw_sr 3 ?_
      obtain ⟨x63, hx, hm⟩ := bind_some hm
      obtain ⟨v1, h9, hr, rfl, A1⟩ := ok_rex_walk_fail_sPOI (av := [.ptr (some (bp0, 0)), Ai x2]) hx (A.cut 2)
      replace A := A.g22 A1
      refine at_gc0 2 [] hr H fun fr t H => ?_
      refine at_ns 2 id (at_L 2 [(4, Ai x10)] H fun fr H => aw_rt ?_)
      exact .inr (.inl ⟨_, _, _, _, _, _, _, _, _, rfl, injA hm, H.ls, A⟩)
     exact aw_sk (.inl ⟨_, _, _, _, _, _, _, _, _, _, rfl, injA hm, H.ls, A⟩)
    refine aw_sr 2 (at_L 2 [(4, Ai x10)] H fun fr H => aw_rt ?_)
    exact .inr (.inl ⟨_, _, _, _, _, _, _, _, _, rfl, injA hm, H.ls, A⟩)
   clear ho
   clear A
   intro e fr h10 hQ
   rcases hQ with ⟨x32, x33, x34, x35, x36, x37, x38, x39, x40, x41, rfl, rfl, H, A⟩ | ⟨x42, x43, x44, x45, x46, x47, x48, x49, x50, rfl, rfl, H, A⟩ | hF
   ·show AW _ _ _ _ _ _ _
    refine aw_rg 7 ?_
    obtain ⟨⟨x64, x65, x66⟩, hx, hm⟩ := bind_some hm
    obtain ⟨v1, h11, hr, r4, rfl, A1⟩ := ok_rex_walk_add_sPOR (av := [.ptr (some (bp0, 0)), .agg [Ai 4, Ai x10, Ai 0, Ai x40, Ai x41, Ai 0, Au 0, Au 0, Au 0, Au 0]]) hx (A.cut 2)
    replace A := A.g22 A1
    refine at_gc1 5 [] 60 hr H fun fr t H => ?_
    refine at_se 1 [(0, .ptr (some (bp0, 0))), (1, Ai x64)] H fun fr H => at_nil ?_
    exact nx hm ⟨_, _, _, _, _, _, _, _, _, _, rfl, _, H.ls, A⟩
   ·exact nr hm fun e => Or.inr (.inl ⟨_, _, _, _, _, _, _, _, _, _, rfl, e, _, H.ls, A⟩)
   exact hF.elim
  refine aw_exit (i := 0) (by kernel_rfl) ?_
  exact nr hm fun e => .inl ⟨_, _, _, _, _, _, _, _, _, _, rfl, e, _, H.ls, A⟩
 clear ho
 clear A
 intro e fr h12 hQ
 rcases hQ with ⟨x11, x12, x13, x14, x15, x16, x17, x18, x19, x20, rfl, rfl, r2, H, A⟩ | ⟨x21, x22, x23, x24, x25, x26, x27, x28, x29, x30, rfl, rfl, r3, H, A⟩ | hF
 ·show AW _ _ _ _ _ _ _
  refine aw_sr 2 (at_L 2 [(4, Ai x20)] H fun fr H => aw_rt ?_)
  obtain ⟨rfl, rfl, rfl⟩ := injC hm
  exact ⟨.inl rfl, _, rH H, _, rfl, A⟩
 ·obtain ⟨rfl, rfl, rfl⟩ := injC hm
  exact ⟨.inl rfl, _, rH H, _, rfl, A⟩
 exact hF.elim
def M_class_Set_Or_L0 (p1 : A4_uint64) (s : Int × Int × Int × Int × Int) : Option ((Int × Int × Int × Int × Int) ⊕ ((Int × Int × Int × Int))) :=
 match s with
 | (x1, x2, x3, x4, x5) => iteB (decide (x5 < 4)) ((ixV ([x1, x2, x3, x4] : List Int) x5).bind fun x10 => (ixV ([p1.w0, p1.w1, p1.w2, p1.w3] : List Int) x5).bind fun x11 => (ixV ([x1, x2, x3, x4] : List Int) x5).bind fun x12 => some (.inl ((bif x5 == 0 then bOr .u64 x10 x11 else x1), (bif (x5 - 1) == 0 then bOr .u64 x10 x11 else x2), (bif ((x5 - 1) - 1) == 0 then bOr .u64 x10 x11 else x3), (bif (((x5 - 1) - 1) - 1) == 0 then bOr .u64 x10 x11 else x4), IntKind.i64.wrap (x5 + 1)))) (some (.inr (x1, x2, x3, x4)))
def M_class_Set_Or (p0 : A4_uint64) (p1 : A4_uint64) : Option (A4_uint64) :=
 (loop (M_class_Set_Or_L0 p1) (p0.w0, p0.w1, p0.w2, p0.w3, (0 : Int))).bind fun (x6, x7, x8, x9) => some (⟨x6, x7, x8, x9⟩ : A4_uint64)
theorem ok_class_Set_Or {p0 p1 q0} (hm : M_class_Set_Or p0 p1 = some q0) (A : HH g h [] F) (hc : canL (cfg.still 107) av = [.agg (e_A4_uint64 p0), .agg (e_A4_uint64 p1)] := by kernel_rfl) : ∃ v h', Runs cfg g h 107 av v h' ∧ v = .agg (e_A4_uint64 q0) ∧ HH g h' [] F := by
 refine rq1 19 [.cell 4 66] hc ?_
 clear hc
 unfold M_class_Set_Or at hm
 refine bg 19 [(0, .agg (e_A4_uint64 p0)), (1, .agg (e_A4_uint64 p1))] fun fr H => ?_
 refine aw_sr 3 ?_
 obtain ⟨h1, e1, A⟩ := A.pu (.cells none 2 (e_A4_uint64 p0))
 refine at_ln 2 (.ptr (some (h.size, 0))) e1 H fun fr t H => ?_
 obtain ⟨h2, e2, A⟩ := A.pu (.cells none 2 (e_A4_uint64 p1))
 refine at_ln 3 (.ptr (some (h1.size, 0))) e2 H fun fr t H => ?_
 obtain ⟨h3, e3, A⟩ := A.pu (.cells none 2 [Au 0, Au 0, Au 0, Au 0])
 refine at_ln 4 (.ptr (some (h2.size, 0))) e3 H fun fr t H => ?_
 refine at_nl id (aw_sq (aw_sr 1 (at_L 1 [(6, Ai 0)] H fun fr H => aw_block (id := 0) (by kernel_rfl) ?_)))
 obtain ⟨o1, ho, hm⟩ := bind_some hm
 refine aw_mono (Q' := fun e fr' h' => (∃ x6 x7 x8 x9, e = .exit 0 ∧ (x6, x7, x8, x9) = o1 ∧ Has fr' 19 [(2, .ptr (some (h.size, 0))), (4, .ptr (some (h2.size, 0)))] ∧ HH g h' [.obj h2.size (.cells none 2 [Au 0, Au 0, Au 0, Au 0]), .obj h1.size (.cells none 2 (e_A4_uint64 p1)), .obj h.size (.cells none 2 [Au x6, Au x7, Au x8, Au x9])] F) ∨ False) ?_ ?_
 ·refine aw_loop (by kernel_rfl) (fun (s : Int × Int × Int × Int × Int) fr' h' => ∃ x1 x2 x3 x4 x5, (x1, x2, x3, x4, x5) = s ∧ Has fr' 19 [(2, .ptr (some (h.size, 0))), (3, .ptr (some (h1.size, 0))), (4, .ptr (some (h2.size, 0))), (6, Ai x5)] ∧ HH g h' [.obj h2.size (.cells none 2 [Au 0, Au 0, Au 0, Au 0]), .obj h1.size (.cells none 2 (e_A4_uint64 p1)), .obj h.size (.cells none 2 [Au x1, Au x2, Au x3, Au x4])] F) ho ⟨_, _, _, _, _, rfl, H.ls, A⟩ ?_
  clear ho hm H A
  intro s q fr h4 hI hm
  obtain ⟨x1, x2, x3, x4, x5, rfl, H, A⟩ := hI
  unfold M_class_Set_Or_L0 at hm
  refine aw_sr 1 (at_L 1 [(7, .bool (decide (x5 < 4)))] H fun fr H => aw_sq (aw_if 7 H hm (fun hb hm H => ?_) fun hb hm H => ?_))
  ·refine aw_kn id (aw_sq (aw_block (id := 1) (by kernel_rfl) ?_))
   refine aw_sr 2 (at_L 2 [(5, Ai x5)] H fun fr H => aw_dg 4 9 ?_)
   obtain ⟨x10, hq1, hm⟩ := bind_some hm
   refine at_g1 1 [(9, Ai x5)] 10 (.ptr (some (h.size, 0 + x5.toNat * 1))) h4 H (fun fr => .of (s_ixA (by kernel_rfl) (ixA_of hq1 (h.size, 0) 1 rfl))) fun fr t H => ?_
   refine at_l1 11 _ _ H (fun fr => .of (s_ld (by kernel_rfl) (HH.ldW A 2 rfl 0 (fun w : Int => Au w) [x1, x2, x3, x4] rfl hq1))) fun fr t H => ?_
   obtain ⟨x11, hq2, hm⟩ := bind_some hm
   refine at_g1 1 [] 13 (.ptr (some (h1.size, 0 + x5.toNat * 1))) h4 H (fun fr => .of (s_ixA (by kernel_rfl) (ixA_of hq2 (h1.size, 0) 1 rfl))) fun fr t H => ?_
   refine at_l1 14 _ _ H (fun fr => .of (s_ld (by kernel_rfl) (HH.ldW A 1 rfl 0 (fun w : Int => Au w) [p1.w0, p1.w1, p1.w2, p1.w3] rfl hq2))) fun fr t H => ?_
   obtain ⟨x12, hq3, hm⟩ := bind_some hm
   refine at_g1 1 [(15, Au (bOr .u64 x10 x11))] 16 (.ptr (some (h.size, 0 + x5.toNat * 1))) h4 H (fun fr => .of (s_ixA (by kernel_rfl) (ixA_of hq3 (h.size, 0) 1 rfl))) fun fr t H => ?_
   obtain ⟨h5, hx, A1⟩ := HH.stW A 2 rfl 0 (fun w : Int => Au w) [x1, x2, x3, x4] (bOr .u64 x10 x11) (ds := [Au (bif x5 == 0 then bOr .u64 x10 x11 else x1), Au (bif (x5 - 1) == 0 then bOr .u64 x10 x11 else x2), Au (bif ((x5 - 1) - 1) == 0 then bOr .u64 x10 x11 else x3), Au (bif (((x5 - 1) - 1) - 1) == 0 then bOr .u64 x10 x11 else x4)]) rfl hq3 rfl rfl
   replace A : HH g h5 [_, _, .obj h.size (.cells none 2 [Au (bif x5 == 0 then bOr .u64 x10 x11 else x1), Au (bif (x5 - 1) == 0 then bOr .u64 x10 x11 else x2), Au (bif ((x5 - 1) - 1) == 0 then bOr .u64 x10 x11 else x3), Au (bif (((x5 - 1) - 1) - 1) == 0 then bOr .u64 x10 x11 else x4)])] F := A1
   refine at_ls hx H fun fr t H => ?_
   refine at_nr 2 id (at_se 2 [(2, .ptr (some (h.size, 0))), (3, .ptr (some (h1.size, 0))), (4, .ptr (some (h2.size, 0))), (6, Ai (IntKind.i64.wrap (x5 + 1)))] H fun fr H => at_nil ?_)
   exact nx hm ⟨_, _, _, _, _, rfl, H.ls, A⟩
  refine aw_exit (i := 0) (by kernel_rfl) ?_
  exact nr hm fun e => .inl ⟨_, _, _, _, rfl, e, H.ls, A⟩
 clear ho
 clear A
 intro e fr h6 hQ
 rcases hQ with ⟨x6, x7, x8, x9, rfl, rfl, H, A⟩ | hF
 ·show AW _ _ _ _ _ _ _
  refine aw_sr 2 (at_l1 18 _ _ H (fun fr => .of (s_ldA (by kernel_rfl) (A.ldA 2 rfl (o := 0) (n := 4) ⟨Nat.le_of_ble_eq_true rfl, rfl⟩))) fun fr t H => ?_)
  obtain ⟨h7, hx, A⟩ := A.s0 0 [Au x6, Au x7, Au x8, Au x9] [_, _, _, _]
  refine at_lS hx H fun fr t H => ?_
  refine at_nl id (aw_rt ?_)
  obtain rfl := injA hm
  refine ⟨.inl rfl, .agg [Au x6, Au x7, Au x8, Au x9], resL_one (.cell (rT H) (load_ldA (by kernel_rfl) (by kernel_rfl) (A.la 0 0 4)) .nil), ?_⟩
  replace A := A.d0
  exact ⟨rfl, A⟩
 exact hF.elim
def M_class_Of_L0 (p0 : List UInt8) (s : Int × Int × Int × Int × Int) : Option ((Int × Int × Int × Int × Int) ⊕ ((Int × Int × Int × Int))) :=
 match s with
 | (x1, x2, x3, x4, x5) => iteB (decide (x5 < (p0.length : Int))) ((ixS p0 x5).bind fun x10 => (M_class_Set_add (⟨x1, x2, x3, x4⟩ : A4_uint64) x10).bind fun x11 => some (.inl (x11.w0, x11.w1, x11.w2, x11.w3, IntKind.i64.wrap (x5 + 1)))) (some (.inr (x1, x2, x3, x4)))
def M_class_Of (p0 : List UInt8) : Option (A4_uint64) :=
 (loop (M_class_Of_L0 p0) ((0 : Int), (0 : Int), (0 : Int), (0 : Int), (0 : Int))).bind fun (x6, x7, x8, x9) => some (⟨x6, x7, x8, x9⟩ : A4_uint64)
theorem ok_class_Of {p0 q0} (hm : M_class_Of p0 = some q0) (A : HH g h [] F) (hc : canL (cfg.still 114) av = [.str p0] := by kernel_rfl) : ∃ v h', Runs cfg g h 114 av v h' ∧ v = .agg (e_A4_uint64 q0) ∧ HH g h' [] F := by
 refine rq1 16 [.cell 2 66] hc ?_
 clear hc
 unfold M_class_Of at hm
 refine bg 16 [(0, .str p0)] fun fr H => ?_
 refine aw_sr 1 ?_
 obtain ⟨h1, e1, A⟩ := A.pu (.cells none 2 [Au 0, Au 0, Au 0, Au 0])
 refine at_ln 2 (.ptr (some (h.size, 0))) e1 H fun fr t H => ?_
 refine at_ns 1 id ?_
 obtain ⟨h2, e2, A⟩ := A.pu (.cells none 2 [Au 0, Au 0, Au 0, Au 0])
 refine at_ln 3 (.ptr (some (h1.size, 0))) e2 H fun fr t H => ?_
 refine at_nl id (aw_sq (aw_sr 3 (at_L 3 [(6, Ai (p0.length : Int)), (7, Ai 0)] H fun fr H => aw_block (id := 0) (by kernel_rfl) ?_)))
 obtain ⟨o1, ho, hm⟩ := bind_some hm
 refine aw_mono (Q' := fun e fr' h' => (∃ x6 x7 x8 x9, e = .exit 0 ∧ (x6, x7, x8, x9) = o1 ∧ Has fr' 16 [(2, .ptr (some (h.size, 0))), (3, .ptr (some (h1.size, 0)))] ∧ HH g h' [.obj h1.size (.cells none 2 [Au x6, Au x7, Au x8, Au x9]), .obj h.size (.cells none 2 [Au 0, Au 0, Au 0, Au 0])] F) ∨ False) ?_ ?_
 ·refine aw_loop (by kernel_rfl) (fun (s : Int × Int × Int × Int × Int) fr' h' => ∃ x1 x2 x3 x4 x5, (x1, x2, x3, x4, x5) = s ∧ Has fr' 16 [(0, .str p0), (2, .ptr (some (h.size, 0))), (3, .ptr (some (h1.size, 0))), (6, Ai (p0.length : Int)), (7, Ai x5)] ∧ HH g h' [.obj h1.size (.cells none 2 [Au x1, Au x2, Au x3, Au x4]), .obj h.size (.cells none 2 [Au 0, Au 0, Au 0, Au 0])] F) ho ⟨_, _, _, _, _, rfl, H.ls, A⟩ ?_
  clear ho hm H A
  intro s q fr h3 hI hm
  obtain ⟨x1, x2, x3, x4, x5, rfl, H, A⟩ := hI
  unfold M_class_Of_L0 at hm
  refine aw_sr 1 (at_L 1 [(8, .bool (decide (x5 < (p0.length : Int))))] H fun fr H => aw_sq (aw_if 8 H hm (fun hb hm H => ?_) fun hb hm H => ?_))
  ·refine aw_kn id (aw_sq (aw_block (id := 1) (by kernel_rfl) ?_))
   refine aw_sr 2 (at_R 2 [(4, Ai x5)] 4 H fun fr H => ?_)
   obtain ⟨x10, hx, hm⟩ := bind_some hm
   refine at_g1 2 [] 12 (Ab x10) h3 H (fun fr => .of (s_ixS (by kernel_rfl) hx)) fun fr t H => ?_
   obtain ⟨x11, hx, hm⟩ := bind_some hm
   obtain ⟨v1, h4, hr, rfl, A1⟩ := ok_class_Set_add (av := [.ptr (some (h1.size, 0)), Ab x10]) hx (A.cut 1)
   replace A := A.g11 A1
   refine at_lc0 hr H fun fr t H => ?_
   refine at_nr 2 id (at_se 2 [(0, .str p0), (2, .ptr (some (h.size, 0))), (3, .ptr (some (h1.size, 0))), (6, Ai (p0.length : Int)), (7, Ai (IntKind.i64.wrap (x5 + 1)))] H fun fr H => at_nil ?_)
   exact nx hm ⟨_, _, _, _, _, rfl, H.ls, A⟩
  refine aw_exit (i := 0) (by kernel_rfl) ?_
  exact nr hm fun e => .inl ⟨_, _, _, _, rfl, e, H.ls, A⟩
 clear ho
 clear A
 intro e fr h5 hQ
 rcases hQ with ⟨x6, x7, x8, x9, rfl, rfl, H, A⟩ | hF
 ·show AW _ _ _ _ _ _ _
  refine aw_sr 2 (at_l1 15 _ _ H (fun fr => .of (s_ldA (by kernel_rfl) (A.ldA 0 rfl (o := 0) (n := 4) ⟨Nat.le_of_ble_eq_true rfl, rfl⟩))) fun fr t H => ?_)
  obtain ⟨h6, hx, A⟩ := A.s1 0 [Au x6, Au x7, Au x8, Au x9] [_, _, _, _]
  refine at_lS hx H fun fr t H => ?_
  refine at_nl id (aw_rt ?_)
  obtain rfl := injA hm
  refine ⟨.inl rfl, .agg [Au x6, Au x7, Au x8, Au x9], resL_one (.cell (rT H) (load_ldA (by kernel_rfl) (by kernel_rfl) (A.la 1 0 4)) .nil), ?_⟩
  replace A := A.d0
  exact ⟨rfl, A⟩
 exact hF.elim
def M_class_Set_Not_L0 (s : Int × Int × Int × Int × Int) : Option ((Int × Int × Int × Int × Int) ⊕ ((Int × Int × Int × Int))) :=
 match s with
 | (x1, x2, x3, x4, x5) => iteB (decide (x5 < 4)) ((ixV ([x1, x2, x3, x4] : List Int) x5).bind fun x10 => (ixV ([x1, x2, x3, x4] : List Int) x5).bind fun x11 => some (.inl ((bif x5 == 0 then bNot .u64 x10 else x1), (bif (x5 - 1) == 0 then bNot .u64 x10 else x2), (bif ((x5 - 1) - 1) == 0 then bNot .u64 x10 else x3), (bif (((x5 - 1) - 1) - 1) == 0 then bNot .u64 x10 else x4), IntKind.i64.wrap (x5 + 1)))) (some (.inr (x1, x2, x3, x4)))
def M_class_Set_Not (p0 : A4_uint64) : Option (A4_uint64) :=
 (loop (M_class_Set_Not_L0) (p0.w0, p0.w1, p0.w2, p0.w3, (0 : Int))).bind fun (x6, x7, x8, x9) => some (⟨x6, x7, x8, x9⟩ : A4_uint64)
theorem ok_class_Set_Not {p0 q0} (hm : M_class_Set_Not p0 = some q0) (A : HH g h [] F) (hc : canL (cfg.still 103) av = [.agg (e_A4_uint64 p0)] := by kernel_rfl) : ∃ v h', Runs cfg g h 103 av v h' ∧ v = .agg (e_A4_uint64 q0) ∧ HH g h' [] F := by
 refine rq1 15 [.cell 2 66] hc ?_
 clear hc
 unfold M_class_Set_Not at hm
 refine bg 15 [(0, .agg (e_A4_uint64 p0))] fun fr H => ?_
 refine aw_sr 2 ?_
 obtain ⟨h1, e1, A⟩ := A.pu (.cells none 2 (e_A4_uint64 p0))
 refine at_ln 1 (.ptr (some (h.size, 0))) e1 H fun fr t H => ?_
 obtain ⟨h2, e2, A⟩ := A.pu (.cells none 2 [Au 0, Au 0, Au 0, Au 0])
 refine at_ln 2 (.ptr (some (h1.size, 0))) e2 H fun fr t H => ?_
 refine at_nl id (aw_sq (aw_sr 1 (at_L 1 [(4, Ai 0)] H fun fr H => aw_block (id := 0) (by kernel_rfl) ?_)))
 obtain ⟨o1, ho, hm⟩ := bind_some hm
 refine aw_mono (Q' := fun e fr' h' => (∃ x6 x7 x8 x9, e = .exit 0 ∧ (x6, x7, x8, x9) = o1 ∧ Has fr' 15 [(1, .ptr (some (h.size, 0))), (2, .ptr (some (h1.size, 0)))] ∧ HH g h' [.obj h1.size (.cells none 2 [Au 0, Au 0, Au 0, Au 0]), .obj h.size (.cells none 2 [Au x6, Au x7, Au x8, Au x9])] F) ∨ False) ?_ ?_
 ·refine aw_loop (by kernel_rfl) (fun (s : Int × Int × Int × Int × Int) fr' h' => ∃ x1 x2 x3 x4 x5, (x1, x2, x3, x4, x5) = s ∧ Has fr' 15 [(1, .ptr (some (h.size, 0))), (2, .ptr (some (h1.size, 0))), (4, Ai x5)] ∧ HH g h' [.obj h1.size (.cells none 2 [Au 0, Au 0, Au 0, Au 0]), .obj h.size (.cells none 2 [Au x1, Au x2, Au x3, Au x4])] F) ho ⟨_, _, _, _, _, rfl, H.ls, A⟩ ?_
  clear ho hm H A
  intro s q fr h3 hI hm
  obtain ⟨x1, x2, x3, x4, x5, rfl, H, A⟩ := hI
  unfold M_class_Set_Not_L0 at hm
  refine aw_sr 1 (at_L 1 [(5, .bool (decide (x5 < 4)))] H fun fr H => aw_sq (aw_if 5 H hm (fun hb hm H => ?_) fun hb hm H => ?_))
  ·refine aw_kn id (aw_sq (aw_block (id := 1) (by kernel_rfl) ?_))
   refine aw_sr 2 (at_R 2 [(3, Ai x5)] 7 H fun fr H => ?_)
   obtain ⟨x10, hq1, hm⟩ := bind_some hm
   refine at_g1 2 [(7, Ai x5)] 9 (.ptr (some (h.size, 0 + x5.toNat * 1))) h3 H (fun fr => .of (s_ixA (by kernel_rfl) (ixA_of hq1 (h.size, 0) 1 rfl))) fun fr t H => ?_
   refine at_l1 10 _ _ H (fun fr => .of (s_ld (by kernel_rfl) (HH.ldW A 1 rfl 0 (fun w : Int => Au w) [x1, x2, x3, x4] rfl hq1))) fun fr t H => ?_
   obtain ⟨x11, hq2, hm⟩ := bind_some hm
   refine at_g1 1 [(11, Au (bNot .u64 x10))] 12 (.ptr (some (h.size, 0 + x5.toNat * 1))) h3 H (fun fr => .of (s_ixA (by kernel_rfl) (ixA_of hq2 (h.size, 0) 1 rfl))) fun fr t H => ?_
   obtain ⟨h4, hx, A1⟩ := HH.stW A 1 rfl 0 (fun w : Int => Au w) [x1, x2, x3, x4] (bNot .u64 x10) (ds := [Au (bif x5 == 0 then bNot .u64 x10 else x1), Au (bif (x5 - 1) == 0 then bNot .u64 x10 else x2), Au (bif ((x5 - 1) - 1) == 0 then bNot .u64 x10 else x3), Au (bif (((x5 - 1) - 1) - 1) == 0 then bNot .u64 x10 else x4)]) rfl hq2 rfl rfl
   replace A : HH g h4 [_, .obj h.size (.cells none 2 [Au (bif x5 == 0 then bNot .u64 x10 else x1), Au (bif (x5 - 1) == 0 then bNot .u64 x10 else x2), Au (bif ((x5 - 1) - 1) == 0 then bNot .u64 x10 else x3), Au (bif (((x5 - 1) - 1) - 1) == 0 then bNot .u64 x10 else x4)])] F := A1
   refine at_ls hx H fun fr t H => ?_
   refine at_nr 2 id (at_se 2 [(1, .ptr (some (h.size, 0))), (2, .ptr (some (h1.size, 0))), (4, Ai (IntKind.i64.wrap (x5 + 1)))] H fun fr H => at_nil ?_)
   exact nx hm ⟨_, _, _, _, _, rfl, H.ls, A⟩
  refine aw_exit (i := 0) (by kernel_rfl) ?_
  exact nr hm fun e => .inl ⟨_, _, _, _, rfl, e, H.ls, A⟩
 clear ho
 clear A
 intro e fr h5 hQ
 rcases hQ with ⟨x6, x7, x8, x9, rfl, rfl, H, A⟩ | hF
 ·show AW _ _ _ _ _ _ _
  refine aw_sr 2 (at_l1 14 _ _ H (fun fr => .of (s_ldA (by kernel_rfl) (A.ldA 1 rfl (o := 0) (n := 4) ⟨Nat.le_of_ble_eq_true rfl, rfl⟩))) fun fr t H => ?_)
  obtain ⟨h6, hx, A⟩ := A.s0 0 [Au x6, Au x7, Au x8, Au x9] [_, _, _, _]
  refine at_lS hx H fun fr t H => ?_
  refine at_nl id (aw_rt ?_)
  obtain rfl := injA hm
  refine ⟨.inl rfl, .agg [Au x6, Au x7, Au x8, Au x9], resL_one (.cell (rT H) (load_ldA (by kernel_rfl) (by kernel_rfl) (A.la 0 0 4)) .nil), ?_⟩
  replace A := A.d0
  exact ⟨rfl, A⟩
 exact hF.elim
def M_class_Set_And_L0 (p1 : A4_uint64) (s : Int × Int × Int × Int × Int) : Option ((Int × Int × Int × Int × Int) ⊕ ((Int × Int × Int × Int))) :=
 match s with
 | (x1, x2, x3, x4, x5) => iteB (decide (x5 < 4)) ((ixV ([x1, x2, x3, x4] : List Int) x5).bind fun x10 => (ixV ([p1.w0, p1.w1, p1.w2, p1.w3] : List Int) x5).bind fun x11 => (ixV ([x1, x2, x3, x4] : List Int) x5).bind fun x12 => some (.inl ((bif x5 == 0 then bAnd .u64 x10 x11 else x1), (bif (x5 - 1) == 0 then bAnd .u64 x10 x11 else x2), (bif ((x5 - 1) - 1) == 0 then bAnd .u64 x10 x11 else x3), (bif (((x5 - 1) - 1) - 1) == 0 then bAnd .u64 x10 x11 else x4), IntKind.i64.wrap (x5 + 1)))) (some (.inr (x1, x2, x3, x4)))
def M_class_Set_And (p0 : A4_uint64) (p1 : A4_uint64) : Option (A4_uint64) :=
 (loop (M_class_Set_And_L0 p1) (p0.w0, p0.w1, p0.w2, p0.w3, (0 : Int))).bind fun (x6, x7, x8, x9) => some (⟨x6, x7, x8, x9⟩ : A4_uint64)
theorem ok_class_Set_And {p0 p1 q0} (hm : M_class_Set_And p0 p1 = some q0) (A : HH g h [] F) (hc : canL (cfg.still 115) av = [.agg (e_A4_uint64 p0), .agg (e_A4_uint64 p1)] := by kernel_rfl) : ∃ v h', Runs cfg g h 115 av v h' ∧ v = .agg (e_A4_uint64 q0) ∧ HH g h' [] F := by
 refine rq1 19 [.cell 4 66] hc ?_
 clear hc
 unfold M_class_Set_And at hm
 refine bg 19 [(0, .agg (e_A4_uint64 p0)), (1, .agg (e_A4_uint64 p1))] fun fr H => ?_
 refine aw_sr 3 ?_
 obtain ⟨h1, e1, A⟩ := A.pu (.cells none 2 (e_A4_uint64 p0))
 refine at_ln 2 (.ptr (some (h.size, 0))) e1 H fun fr t H => ?_
 obtain ⟨h2, e2, A⟩ := A.pu (.cells none 2 (e_A4_uint64 p1))
 refine at_ln 3 (.ptr (some (h1.size, 0))) e2 H fun fr t H => ?_
 obtain ⟨h3, e3, A⟩ := A.pu (.cells none 2 [Au 0, Au 0, Au 0, Au 0])
 refine at_ln 4 (.ptr (some (h2.size, 0))) e3 H fun fr t H => ?_
 refine at_nl id (aw_sq (aw_sr 1 (at_L 1 [(6, Ai 0)] H fun fr H => aw_block (id := 0) (by kernel_rfl) ?_)))
 obtain ⟨o1, ho, hm⟩ := bind_some hm
 refine aw_mono (Q' := fun e fr' h' => (∃ x6 x7 x8 x9, e = .exit 0 ∧ (x6, x7, x8, x9) = o1 ∧ Has fr' 19 [(2, .ptr (some (h.size, 0))), (4, .ptr (some (h2.size, 0)))] ∧ HH g h' [.obj h2.size (.cells none 2 [Au 0, Au 0, Au 0, Au 0]), .obj h1.size (.cells none 2 (e_A4_uint64 p1)), .obj h.size (.cells none 2 [Au x6, Au x7, Au x8, Au x9])] F) ∨ False) ?_ ?_
 ·refine aw_loop (by kernel_rfl) (fun (s : Int × Int × Int × Int × Int) fr' h' => ∃ x1 x2 x3 x4 x5, (x1, x2, x3, x4, x5) = s ∧ Has fr' 19 [(2, .ptr (some (h.size, 0))), (3, .ptr (some (h1.size, 0))), (4, .ptr (some (h2.size, 0))), (6, Ai x5)] ∧ HH g h' [.obj h2.size (.cells none 2 [Au 0, Au 0, Au 0, Au 0]), .obj h1.size (.cells none 2 (e_A4_uint64 p1)), .obj h.size (.cells none 2 [Au x1, Au x2, Au x3, Au x4])] F) ho ⟨_, _, _, _, _, rfl, H.ls, A⟩ ?_
  clear ho hm H A
  intro s q fr h4 hI hm
  obtain ⟨x1, x2, x3, x4, x5, rfl, H, A⟩ := hI
  unfold M_class_Set_And_L0 at hm
  refine aw_sr 1 (at_L 1 [(7, .bool (decide (x5 < 4)))] H fun fr H => aw_sq (aw_if 7 H hm (fun hb hm H => ?_) fun hb hm H => ?_))
  ·refine aw_kn id (aw_sq (aw_block (id := 1) (by kernel_rfl) ?_))
   refine aw_sr 2 (at_L 2 [(5, Ai x5)] H fun fr H => aw_dg 4 9 ?_)
   obtain ⟨x10, hq1, hm⟩ := bind_some hm
   refine at_g1 1 [(9, Ai x5)] 10 (.ptr (some (h.size, 0 + x5.toNat * 1))) h4 H (fun fr => .of (s_ixA (by kernel_rfl) (ixA_of hq1 (h.size, 0) 1 rfl))) fun fr t H => ?_
   refine at_l1 11 _ _ H (fun fr => .of (s_ld (by kernel_rfl) (HH.ldW A 2 rfl 0 (fun w : Int => Au w) [x1, x2, x3, x4] rfl hq1))) fun fr t H => ?_
   obtain ⟨x11, hq2, hm⟩ := bind_some hm
   refine at_g1 1 [] 13 (.ptr (some (h1.size, 0 + x5.toNat * 1))) h4 H (fun fr => .of (s_ixA (by kernel_rfl) (ixA_of hq2 (h1.size, 0) 1 rfl))) fun fr t H => ?_
   refine at_l1 14 _ _ H (fun fr => .of (s_ld (by kernel_rfl) (HH.ldW A 1 rfl 0 (fun w : Int => Au w) [p1.w0, p1.w1, p1.w2, p1.w3] rfl hq2))) fun fr t H => ?_
   obtain ⟨x12, hq3, hm⟩ := bind_some hm
   refine at_g1 1 [(15, Au (bAnd .u64 x10 x11))] 16 (.ptr (some (h.size, 0 + x5.toNat * 1))) h4 H (fun fr => .of (s_ixA (by kernel_rfl) (ixA_of hq3 (h.size, 0) 1 rfl))) fun fr t H => ?_
   obtain ⟨h5, hx, A1⟩ := HH.stW A 2 rfl 0 (fun w : Int => Au w) [x1, x2, x3, x4] (bAnd .u64 x10 x11) (ds := [Au (bif x5 == 0 then bAnd .u64 x10 x11 else x1), Au (bif (x5 - 1) == 0 then bAnd .u64 x10 x11 else x2), Au (bif ((x5 - 1) - 1) == 0 then bAnd .u64 x10 x11 else x3), Au (bif (((x5 - 1) - 1) - 1) == 0 then bAnd .u64 x10 x11 else x4)]) rfl hq3 rfl rfl
   replace A : HH g h5 [_, _, .obj h.size (.cells none 2 [Au (bif x5 == 0 then bAnd .u64 x10 x11 else x1), Au (bif (x5 - 1) == 0 then bAnd .u64 x10 x11 else x2), Au (bif ((x5 - 1) - 1) == 0 then bAnd .u64 x10 x11 else x3), Au (bif (((x5 - 1) - 1) - 1) == 0 then bAnd .u64 x10 x11 else x4)])] F := A1
   refine at_ls hx H fun fr t H => ?_
   refine at_nr 2 id (at_se 2 [(2, .ptr (some (h.size, 0))), (3, .ptr (some (h1.size, 0))), (4, .ptr (some (h2.size, 0))), (6, Ai (IntKind.i64.wrap (x5 + 1)))] H fun fr H => at_nil ?_)
   exact nx hm ⟨_, _, _, _, _, rfl, H.ls, A⟩
  refine aw_exit (i := 0) (by kernel_rfl) ?_
  exact nr hm fun e => .inl ⟨_, _, _, _, rfl, e, H.ls, A⟩
 clear ho
 clear A
 intro e fr h6 hQ
 rcases hQ with ⟨x6, x7, x8, x9, rfl, rfl, H, A⟩ | hF
 ·show AW _ _ _ _ _ _ _
  refine aw_sr 2 (at_l1 18 _ _ H (fun fr => .of (s_ldA (by kernel_rfl) (A.ldA 2 rfl (o := 0) (n := 4) ⟨Nat.le_of_ble_eq_true rfl, rfl⟩))) fun fr t H => ?_)
  obtain ⟨h7, hx, A⟩ := A.s0 0 [Au x6, Au x7, Au x8, Au x9] [_, _, _, _]
  refine at_lS hx H fun fr t H => ?_
  refine at_nl id (aw_rt ?_)
  obtain rfl := injA hm
  refine ⟨.inl rfl, .agg [Au x6, Au x7, Au x8, Au x9], resL_one (.cell (rT H) (load_ldA (by kernel_rfl) (by kernel_rfl) (A.la 0 0 4)) .nil), ?_⟩
  replace A := A.d0
  exact ⟨rfl, A⟩
 exact hF.elim
def M_class_Named (p0 : List UInt8) : Option (A4_uint64 × Bool) :=
 (M_class_Range (65 : Int) (90 : Int)).bind fun x1 => (M_class_Range (97 : Int) (122 : Int)).bind fun x2 => (M_class_Range (48 : Int) (57 : Int)).bind fun x3 => (M_class_Set_Or x1 x2).bind fun x4 => (M_class_Set_Or x4 x3).bind fun x5 => iteB (p0 == ([97, 108, 112, 104, 97] : List UInt8)) ((M_class_Set_Or x1 x2).bind fun x6 => some (x6, true)) (iteB (p0 == ([100, 105, 103, 105, 116] : List UInt8)) (some (x3, true)) (iteB (p0 == ([97, 108, 110, 117, 109] : List UInt8)) (some (x5, true)) (iteB (p0 == ([117, 112, 112, 101, 114] : List UInt8)) (some (x1, true)) (iteB (p0 == ([108, 111, 119, 101, 114] : List UInt8)) (some (x2, true)) (iteB (p0 == ([120, 100, 105, 103, 105, 116] : List UInt8)) ((M_class_Range (65 : Int) (70 : Int)).bind fun x7 => (M_class_Set_Or x3 x7).bind fun x8 => (M_class_Range (97 : Int) (102 : Int)).bind fun x9 => (M_class_Set_Or x8 x9).bind fun x10 => some (x10, true)) (iteB (p0 == ([98, 108, 97, 110, 107] : List UInt8)) ((M_class_Of ([32, 9] : List UInt8)).bind fun x11 => some (x11, true)) (iteB (p0 == ([115, 112, 97, 99, 101] : List UInt8)) ((M_class_Range (9 : Int) (13 : Int)).bind fun x12 => (M_class_Of ([32] : List UInt8)).bind fun x13 => (M_class_Set_Or x12 x13).bind fun x14 => some (x14, true)) (iteB (p0 == ([99, 110, 116, 114, 108] : List UInt8)) ((M_class_Range (0 : Int) (31 : Int)).bind fun x15 => (M_class_Of ([127] : List UInt8)).bind fun x16 => (M_class_Set_Or x15 x16).bind fun x17 => some (x17, true)) (iteB (p0 == ([103, 114, 97, 112, 104] : List UInt8)) ((M_class_Range (33 : Int) (126 : Int)).bind fun x18 => some (x18, true)) (iteB (p0 == ([112, 114, 105, 110, 116] : List UInt8)) ((M_class_Range (32 : Int) (126 : Int)).bind fun x19 => some (x19, true)) (iteB (p0 == ([112, 117, 110, 99, 116] : List UInt8)) ((M_class_Range (33 : Int) (126 : Int)).bind fun x20 => (M_class_Set_Not x5).bind fun x21 => (M_class_Set_And x20 x21).bind fun x22 => some (x22, true)) (some ((⟨(0 : Int), (0 : Int), (0 : Int), (0 : Int)⟩ : A4_uint64), false)))))))))))))
theorem ok_class_Named {p0 q0 q1} (hm : M_class_Named p0 = some (q0, q1)) (A : HH g h [] F) (hc : canL (cfg.still 111) av = [.str p0] := by kernel_rfl) : ∃ v h', Runs cfg g h 111 av v h' ∧ v = .tuple [.agg (e_A4_uint64 q0), .bool q1] ∧ HH g h' [] F := by
 refine rq1 67 [.cell 2 66, .tmp 3] hc ?_
 clear hc
 unfold M_class_Named at hm
 refine bg 67 [(0, .str p0)] fun fr H => ?_
 refine aw_sr 2 ?_
 obtain ⟨h1, e1, A⟩ := A.pu (.cells none 2 [Au 0, Au 0, Au 0, Au 0])
 refine at_ln 2 (.ptr (some (h.size, 0))) e1 H fun fr t H => ?_
 refine at_S 1 [] 9 H fun fr H => ?_
 obtain ⟨x1, hx, hm⟩ := bind_some hm
 obtain ⟨v1, h2, hr, rfl, A1⟩ := ok_class_Range (av := [Ab 65, Ab 90]) hx (A.cut 0)
 replace A : HH g h2 [.obj h.size (.cells none 2 [Au (0 : Int), Au (0 : Int), Au (0 : Int), Au (0 : Int)])] F := A.glue0 (n := 0) A1
 refine at_lc1 8 hr H fun fr t H => ?_
 obtain ⟨x2, hx, hm⟩ := bind_some hm
 obtain ⟨v1, h3, hr, rfl, A1⟩ := ok_class_Range (av := [Ab 97, Ab 122]) hx (A.cut 0)
 replace A := A.g00 A1
 refine at_lc1 9 hr H fun fr t H => ?_
 obtain ⟨x3, hx, hm⟩ := bind_some hm
 obtain ⟨v1, h4, hr, rfl, A1⟩ := ok_class_Range (av := [Ab 48, Ab 57]) hx (A.cut 0)
 replace A := A.g00 A1
 refine at_lc1 10 hr H fun fr t H => ?_
 obtain ⟨h5, e2, A⟩ := A.pu (.cells none 2 [Au 0, Au 0, Au 0, Au 0])
 refine at_ln 4 (.ptr (some (h4.size, 0))) e2 H fun fr t H => ?_
 obtain ⟨h6, e3, A⟩ := A.pu (.cells none 2 [Au 0, Au 0, Au 0, Au 0])
 refine at_ln 5 (.ptr (some (h5.size, 0))) e3 H fun fr t H => ?_
 obtain ⟨h7, e4, A⟩ := A.pu (.cells none 2 [Au 0, Au 0, Au 0, Au 0])
 refine at_ln 6 (.ptr (some (h6.size, 0))) e4 H fun fr t H => ?_
 obtain ⟨h8, hx, A1⟩ := A.st 2 rfl (o := 0) (new := (e_A4_uint64 x1)) (ds := (e_A4_uint64 x1)) (Nat.le_of_ble_eq_true rfl) rfl rfl
 replace A : HH g h8 [.obj h6.size (.cells none 2 [Au 0, Au 0, Au 0, Au 0]), .obj h5.size (.cells none 2 [Au 0, Au 0, Au 0, Au 0]), .obj h4.size (.cells none 2 (e_A4_uint64 x1)), _] F := A1
 refine at_lS hx H fun fr t H => ?_
 obtain ⟨h9, hx, A⟩ := A.s1 0 (e_A4_uint64 x2) [_, _, _, _]
 refine at_lS hx H fun fr t H => ?_
 obtain ⟨h10, hx, A⟩ := A.s0 0 (e_A4_uint64 x3) [_, _, _, _]
 refine at_lS hx H fun fr t H => ?_
 refine at_nl id (aw_sq (aw_dw 2 7 [(0, []), (1, []), (3, []), (5, []), (2, [3, 5]), (4, [5]), (6, [])] ?_))
 refine at_t1 11 (.agg (e_A4_uint64 x1)) h10 [(0, h4.size)] (g.prot) H (fun fr => .of (s_ldA (by kernel_rfl) (A.la 2 0 4))) (fun fr H => ?_)
 refine at_t1 12 (.agg (e_A4_uint64 x2)) h10 [(1, h5.size), (0, h4.size)] (g.prot) H (fun fr => .of (s_ldA (by kernel_rfl) (A.la 1 0 4))) (fun fr H => ?_)
 refine at_t1 14 (.agg (e_A4_uint64 x3)) h10 [(3, h6.size), (1, h5.size), (0, h4.size)] (g.prot) H (fun fr => .of (s_ldA (by kernel_rfl) (A.la 0 0 4))) (fun fr H => ?_)
 obtain ⟨h11, e5, A⟩ := A.pu (.cells none 2 [Au 0, Au 0, Au 0, Au 0])
 refine at_t1 7 (.ptr (some (h10.size, 0))) h11 [(5, h10.size), (3, h6.size), (1, h5.size), (0, h4.size)] (g.prot) H (fun fr => .of (s_n' (by kernel_rfl) (congrArg some e5.symm))) (fun fr H => ?_)
 have A1 := A.prot2 0 (pr := [h10.size, h6.size]) (.cons 0 rfl (by simp [Ck.ids]) (.cons 1 rfl (by simp [Ck.ids]) .nil))
 obtain ⟨x4, hx, hm⟩ := bind_some hm
 obtain ⟨v1, h12, hr, rfl, A1⟩ := ok_class_Set_Or (av := [.agg (e_A4_uint64 x1), .agg (e_A4_uint64 x2)]) hx A1
 replace A : HH g h12 [.obj h10.size (.cells none 2 [Au (0 : Int), Au (0 : Int), Au (0 : Int), Au (0 : Int)]), _, _, _, _] F := A.glueP (n := 0) A1
 refine at_t1 13 (.agg (e_A4_uint64 x4)) h12 [(5, h10.size), (3, h6.size), (1, h5.size), (0, h4.size)] (h10.size :: h6.size :: g.prot) H (fun fr => Steps.call (by kernel_rfl) hr) (fun fr H => ?_)
 have A1 := A.prot2 0 (pr := [h10.size]) (.cons 0 rfl (by simp [Ck.ids]) .nil)
 obtain ⟨x5, hx, hm⟩ := bind_some hm
 obtain ⟨v1, h13, hr, rfl, A1⟩ := ok_class_Set_Or (av := [.agg (e_A4_uint64 x4), .agg (e_A4_uint64 x3)]) hx A1
 replace A := A.p00 A1
 refine at_t1 15 (.agg (e_A4_uint64 x5)) h13 [(5, h10.size), (3, h6.size), (1, h5.size), (0, h4.size)] (h10.size :: g.prot) H (fun fr => Steps.call (by kernel_rfl) hr) (fun fr H => ?_)
 obtain ⟨h14, hx, A⟩ := A.s0 0 (e_A4_uint64 x5) [_, _, _, _]
 refine at_t0 (.tuple []) h14 [(5, h10.size), (3, h6.size), (1, h5.size), (0, h4.size)] (g.prot) H (fun fr => .of (s_stG (by kernel_rfl) (stG_st hx rfl))) (fun fr H => ?_)
 refine at_nl id (aw_sq (aw_sr 1 (at_L 1 [(16, .str p0)] H fun fr H => aw_block (id := 0) (by kernel_rfl) ?_)))
 refine aw_sr 2 (at_L 2 [(17, .bool (p0 == ([97, 108, 112, 104, 97] : List UInt8)))] H fun fr H => aw_if 17 H hm (fun hb hm H => ?_) fun hb hm H => ?_)
 ·refine aw_sr 5 (at_l1 19 _ _ H (fun fr => .of (s_ldA (by kernel_rfl) (A.ldA 3 rfl (o := 0) (n := 4) ⟨Nat.le_of_ble_eq_true rfl, rfl⟩))) fun fr t H => ?_)
  refine at_l1 20 _ _ H (fun fr => .of (s_ldA (by kernel_rfl) (A.ldA 2 rfl (o := 0) (n := 4) ⟨Nat.le_of_ble_eq_true rfl, rfl⟩))) fun fr t H => ?_
  obtain ⟨x6, hx, hm⟩ := bind_some hm
  obtain ⟨v1, h15, hr, rfl, A1⟩ := ok_class_Set_Or (av := [.agg (e_A4_uint64 x1), .agg (e_A4_uint64 x2)]) hx (A.cut 0)
  replace A := A.g00 A1
  refine at_lc1 21 hr H fun fr t H => ?_
  obtain ⟨h16, hx, A⟩ := A.s4 0 (e_A4_uint64 x6) [_, _, _, _]
  refine at_lS hx H fun fr t H => ?_
  refine at_L 1 [(3, .bool true)] H fun fr H => aw_rt ?_
  obtain ⟨rfl, rfl⟩ := injB hm
  refine ⟨.inl rfl, .tuple [.agg (e_A4_uint64 x6), .bool true], resL_many (.cell (rT H) (load_ldA (by kernel_rfl) (by kernel_rfl) (A.la 4 0 4)) (.tmp (rT H) .nil)), ?_⟩
  replace A := A.d0
  exact ⟨rfl, A⟩
 refine aw_sr 2 (at_L 2 [(22, .bool (p0 == ([100, 105, 103, 105, 116] : List UInt8)))] H fun fr H => aw_if 22 H hm (fun hb hm H => ?_) fun hb hm H => ?_)
 ·refine aw_sr 3 (at_l1 24 _ _ H (fun fr => .of (s_ldA (by kernel_rfl) (A.ldA 1 rfl (o := 0) (n := 4) ⟨Nat.le_of_ble_eq_true rfl, rfl⟩))) fun fr t H => ?_)
  obtain ⟨h17, hx, A⟩ := A.s4 0 (e_A4_uint64 x3) [_, _, _, _]
  refine at_lS hx H fun fr t H => ?_
  refine at_L 1 [(3, .bool true)] H fun fr H => aw_rt ?_
  obtain ⟨rfl, rfl⟩ := injB hm
  refine ⟨.inl rfl, .tuple [.agg (e_A4_uint64 x3), .bool true], resL_many (.cell (rT H) (load_ldA (by kernel_rfl) (by kernel_rfl) (A.la 4 0 4)) (.tmp (rT H) .nil)), ?_⟩
  replace A := A.d0
  exact ⟨rfl, A⟩
 refine aw_sr 2 (at_L 2 [(25, .bool (p0 == ([97, 108, 110, 117, 109] : List UInt8)))] H fun fr H => aw_if 25 H hm (fun hb hm H => ?_) fun hb hm H => ?_)
 ·refine aw_sr 3 (at_l1 27 _ _ H (fun fr => .of (s_ldA (by kernel_rfl) (A.ldA 0 rfl (o := 0) (n := 4) ⟨Nat.le_of_ble_eq_true rfl, rfl⟩))) fun fr t H => ?_)
  obtain ⟨h18, hx, A⟩ := A.s4 0 (e_A4_uint64 x5) [_, _, _, _]
  refine at_lS hx H fun fr t H => ?_
  refine at_L 1 [(3, .bool true)] H fun fr H => aw_rt ?_
  obtain ⟨rfl, rfl⟩ := injB hm
  refine ⟨.inl rfl, .tuple [.agg (e_A4_uint64 x5), .bool true], resL_many (.cell (rT H) (load_ldA (by kernel_rfl) (by kernel_rfl) (A.la 4 0 4)) (.tmp (rT H) .nil)), ?_⟩
  replace A := A.d0
  exact ⟨rfl, A⟩
 refine aw_sr 2 (at_L 2 [(28, .bool (p0 == ([117, 112, 112, 101, 114] : List UInt8)))] H fun fr H => aw_if 28 H hm (fun hb hm H => ?_) fun hb hm H => ?_)
 ·refine aw_sr 3 (at_l1 30 _ _ H (fun fr => .of (s_ldA (by kernel_rfl) (A.ldA 3 rfl (o := 0) (n := 4) ⟨Nat.le_of_ble_eq_true rfl, rfl⟩))) fun fr t H => ?_)
  obtain ⟨h19, hx, A⟩ := A.s4 0 (e_A4_uint64 x1) [_, _, _, _]
  refine at_lS hx H fun fr t H => ?_
  refine at_L 1 [(3, .bool true)] H fun fr H => aw_rt ?_
  obtain ⟨rfl, rfl⟩ := injB hm
  refine ⟨.inl rfl, .tuple [.agg (e_A4_uint64 x1), .bool true], resL_many (.cell (rT H) (load_ldA (by kernel_rfl) (by kernel_rfl) (A.la 4 0 4)) (.tmp (rT H) .nil)), ?_⟩
  replace A := A.d0
  exact ⟨rfl, A⟩
 refine aw_sr 2 (at_L 2 [(31, .bool (p0 == ([108, 111, 119, 101, 114] : List UInt8)))] H fun fr H => aw_if 31 H hm (fun hb hm H => ?_) fun hb hm H => ?_)
 ·refine aw_sr 3 (at_l1 33 _ _ H (fun fr => .of (s_ldA (by kernel_rfl) (A.ldA 2 rfl (o := 0) (n := 4) ⟨Nat.le_of_ble_eq_true rfl, rfl⟩))) fun fr t H => ?_)
  obtain ⟨h20, hx, A⟩ := A.s4 0 (e_A4_uint64 x2) [_, _, _, _]
  refine at_lS hx H fun fr t H => ?_
  refine at_L 1 [(3, .bool true)] H fun fr H => aw_rt ?_
  obtain ⟨rfl, rfl⟩ := injB hm
  refine ⟨.inl rfl, .tuple [.agg (e_A4_uint64 x2), .bool true], resL_many (.cell (rT H) (load_ldA (by kernel_rfl) (by kernel_rfl) (A.la 4 0 4)) (.tmp (rT H) .nil)), ?_⟩
  replace A := A.d0
  exact ⟨rfl, A⟩
 refine aw_sr 2 (at_L 2 [(34, .bool (p0 == ([120, 100, 105, 103, 105, 116] : List UInt8)))] H fun fr H => aw_if 34 H hm (fun hb hm H => ?_) fun hb hm H => ?_)
 ·refine aw_sq (aw_dw 15 7 [(0, []), (1, [0]), (2, []), (3, []), (4, []), (5, []), (6, [])] ?_)
  refine at_t1 36 (.agg (e_A4_uint64 x3)) h14 [(0, h6.size)] (g.prot) H (fun fr => .of (s_ldA (by kernel_rfl) (A.la 1 0 4))) (fun fr H => ?_)
  have A1 := A.prot2 0 (pr := [h6.size]) (.cons 1 rfl (by simp [Ck.ids]) .nil)
  obtain ⟨x7, hx, hm⟩ := bind_some hm
  obtain ⟨v1, h21, hr, rfl, A1⟩ := ok_class_Range (av := [Ab 65, Ab 70]) hx A1
  replace A := A.p00 A1
  refine at_t1 37 (.agg (e_A4_uint64 x7)) h21 [(0, h6.size)] (h6.size :: g.prot) H (fun fr => Steps.call (by kernel_rfl) hr) (fun fr H => ?_)
  obtain ⟨x8, hx, hm⟩ := bind_some hm
  obtain ⟨v1, h22, hr, rfl, A1⟩ := ok_class_Set_Or (av := [.agg (e_A4_uint64 x3), .agg (e_A4_uint64 x7)]) hx (A.cut 0)
  replace A := A.g00 A1
  refine at_t1 38 (.agg (e_A4_uint64 x8)) h22 [(0, h6.size)] (g.prot) H (fun fr => Steps.call (by kernel_rfl) hr) (fun fr H => ?_)
  obtain ⟨x9, hx, hm⟩ := bind_some hm
  obtain ⟨v1, h23, hr, rfl, A1⟩ := ok_class_Range (av := [Ab 97, Ab 102]) hx (A.cut 0)
  replace A := A.g00 A1
  refine at_t1 39 (.agg (e_A4_uint64 x9)) h23 [(0, h6.size)] (g.prot) H (fun fr => Steps.call (by kernel_rfl) hr) (fun fr H => ?_)
  obtain ⟨x10, hx, hm⟩ := bind_some hm
  obtain ⟨v1, h24, hr, rfl, A1⟩ := ok_class_Set_Or (av := [.agg (e_A4_uint64 x8), .agg (e_A4_uint64 x9)]) hx (A.cut 0)
  replace A := A.g00 A1
  refine at_t1 40 (.agg (e_A4_uint64 x10)) h24 [(0, h6.size)] (g.prot) H (fun fr => Steps.call (by kernel_rfl) hr) (fun fr H => ?_)
  obtain ⟨h25, hx, A⟩ := A.s4 0 (e_A4_uint64 x10) [_, _, _, _]
  refine at_t0 (.tuple []) h25 [(0, h6.size)] (g.prot) H (fun fr => .of (s_stG (by kernel_rfl) (stG_st hx rfl))) (fun fr H => ?_)
  refine at_L 1 [(3, .bool true)] H fun fr H => aw_rt ?_
  obtain ⟨rfl, rfl⟩ := injB hm
  refine ⟨.inl rfl, .tuple [.agg (e_A4_uint64 x10), .bool true], resL_many (.cell (rT H) (load_ldA (by kernel_rfl) (by kernel_rfl) (A.la 4 0 4)) (.tmp (rT H) .nil)), ?_⟩
  replace A := A.d0
  exact ⟨rfl, A⟩
 refine aw_sr 2 (at_L 2 [(41, .bool (p0 == ([98, 108, 97, 110, 107] : List UInt8)))] H fun fr H => aw_if 41 H hm (fun hb hm H => ?_) fun hb hm H => ?_)
 ·refine aw_sr 3 ?_
  obtain ⟨x11, hx, hm⟩ := bind_some hm
  obtain ⟨v1, h26, hr, rfl, A1⟩ := ok_class_Of (av := [.str ([32, 9] : List UInt8)]) hx (A.cut 0)
  replace A := A.g00 A1
  refine at_lc1 43 hr H fun fr t H => ?_
  obtain ⟨h27, hx, A⟩ := A.s4 0 (e_A4_uint64 x11) [_, _, _, _]
  refine at_lS hx H fun fr t H => ?_
  refine at_L 1 [(3, .bool true)] H fun fr H => aw_rt ?_
  obtain ⟨rfl, rfl⟩ := injB hm
  refine ⟨.inl rfl, .tuple [.agg (e_A4_uint64 x11), .bool true], resL_many (.cell (rT H) (load_ldA (by kernel_rfl) (by kernel_rfl) (A.la 4 0 4)) (.tmp (rT H) .nil)), ?_⟩
  replace A := A.d0
  exact ⟨rfl, A⟩
 refine aw_sr 2 (at_L 2 [(44, .bool (p0 == ([115, 112, 97, 99, 101] : List UInt8)))] H fun fr H => aw_if 44 H hm (fun hb hm H => ?_) fun hb hm H => ?_)
 ·refine aw_sr 5 ?_
  obtain ⟨x12, hx, hm⟩ := bind_some hm
  obtain ⟨v1, h28, hr, rfl, A1⟩ := ok_class_Range (av := [Ab 9, Ab 13]) hx (A.cut 0)
  replace A := A.g00 A1
  refine at_lc1 46 hr H fun fr t H => ?_
  obtain ⟨x13, hx, hm⟩ := bind_some hm
  obtain ⟨v1, h29, hr, rfl, A1⟩ := ok_class_Of (av := [.str ([32] : List UInt8)]) hx (A.cut 0)
  replace A := A.g00 A1
  refine at_lc1 47 hr H fun fr t H => ?_
  obtain ⟨x14, hx, hm⟩ := bind_some hm
  obtain ⟨v1, h30, hr, rfl, A1⟩ := ok_class_Set_Or (av := [.agg (e_A4_uint64 x12), .agg (e_A4_uint64 x13)]) hx (A.cut 0)
  replace A := A.g00 A1
  refine at_lc1 48 hr H fun fr t H => ?_
  obtain ⟨h31, hx, A⟩ := A.s4 0 (e_A4_uint64 x14) [_, _, _, _]
  refine at_lS hx H fun fr t H => ?_
  refine at_L 1 [(3, .bool true)] H fun fr H => aw_rt ?_
  obtain ⟨rfl, rfl⟩ := injB hm
  refine ⟨.inl rfl, .tuple [.agg (e_A4_uint64 x14), .bool true], resL_many (.cell (rT H) (load_ldA (by kernel_rfl) (by kernel_rfl) (A.la 4 0 4)) (.tmp (rT H) .nil)), ?_⟩
  replace A := A.d0
  exact ⟨rfl, A⟩
 refine aw_sr 2 (at_L 2 [(49, .bool (p0 == ([99, 110, 116, 114, 108] : List UInt8)))] H fun fr H => aw_if 49 H hm (fun hb hm H => ?_) fun hb hm H => ?_)
 ·refine aw_sr 5 ?_
  obtain ⟨x15, hx, hm⟩ := bind_some hm
  obtain ⟨v1, h32, hr, rfl, A1⟩ := ok_class_Range (av := [Ab 0, Ab 31]) hx (A.cut 0)
  replace A := A.g00 A1
  refine at_lc1 51 hr H fun fr t H => ?_
  obtain ⟨x16, hx, hm⟩ := bind_some hm
  obtain ⟨v1, h33, hr, rfl, A1⟩ := ok_class_Of (av := [.str ([127] : List UInt8)]) hx (A.cut 0)
  replace A := A.g00 A1
  refine at_lc1 52 hr H fun fr t H => ?_
  obtain ⟨x17, hx, hm⟩ := bind_some hm
  obtain ⟨v1, h34, hr, rfl, A1⟩ := ok_class_Set_Or (av := [.agg (e_A4_uint64 x15), .agg (e_A4_uint64 x16)]) hx (A.cut 0)
  replace A := A.g00 A1
  refine at_lc1 53 hr H fun fr t H => ?_
  obtain ⟨h35, hx, A⟩ := A.s4 0 (e_A4_uint64 x17) [_, _, _, _]
  refine at_lS hx H fun fr t H => ?_
  refine at_L 1 [(3, .bool true)] H fun fr H => aw_rt ?_
  obtain ⟨rfl, rfl⟩ := injB hm
  refine ⟨.inl rfl, .tuple [.agg (e_A4_uint64 x17), .bool true], resL_many (.cell (rT H) (load_ldA (by kernel_rfl) (by kernel_rfl) (A.la 4 0 4)) (.tmp (rT H) .nil)), ?_⟩
  replace A := A.d0
  exact ⟨rfl, A⟩
 refine aw_sr 2 (at_L 2 [(54, .bool (p0 == ([103, 114, 97, 112, 104] : List UInt8)))] H fun fr H => aw_if 54 H hm (fun hb hm H => ?_) fun hb hm H => ?_)
 ·refine aw_sr 3 ?_
  obtain ⟨x18, hx, hm⟩ := bind_some hm
  obtain ⟨v1, h36, hr, rfl, A1⟩ := ok_class_Range (av := [Ab 33, Ab 126]) hx (A.cut 0)
  replace A := A.g00 A1
  refine at_lc1 56 hr H fun fr t H => ?_
  obtain ⟨h37, hx, A⟩ := A.s4 0 (e_A4_uint64 x18) [_, _, _, _]
  refine at_lS hx H fun fr t H => ?_
  refine at_L 1 [(3, .bool true)] H fun fr H => aw_rt ?_
  obtain ⟨rfl, rfl⟩ := injB hm
  refine ⟨.inl rfl, .tuple [.agg (e_A4_uint64 x18), .bool true], resL_many (.cell (rT H) (load_ldA (by kernel_rfl) (by kernel_rfl) (A.la 4 0 4)) (.tmp (rT H) .nil)), ?_⟩
  replace A := A.d0
  exact ⟨rfl, A⟩
 refine aw_sr 2 (at_L 2 [(57, .bool (p0 == ([112, 114, 105, 110, 116] : List UInt8)))] H fun fr H => aw_if 57 H hm (fun hb hm H => ?_) fun hb hm H => ?_)
 ·refine aw_sr 3 ?_
  obtain ⟨x19, hx, hm⟩ := bind_some hm
  obtain ⟨v1, h38, hr, rfl, A1⟩ := ok_class_Range (av := [Ab 32, Ab 126]) hx (A.cut 0)
  replace A := A.g00 A1
  refine at_lc1 59 hr H fun fr t H => ?_
  obtain ⟨h39, hx, A⟩ := A.s4 0 (e_A4_uint64 x19) [_, _, _, _]
  refine at_lS hx H fun fr t H => ?_
  refine at_L 1 [(3, .bool true)] H fun fr H => aw_rt ?_
  obtain ⟨rfl, rfl⟩ := injB hm
  refine ⟨.inl rfl, .tuple [.agg (e_A4_uint64 x19), .bool true], resL_many (.cell (rT H) (load_ldA (by kernel_rfl) (by kernel_rfl) (A.la 4 0 4)) (.tmp (rT H) .nil)), ?_⟩
  replace A := A.d0
  exact ⟨rfl, A⟩
 refine aw_sr 2 (at_L 2 [(60, .bool (p0 == ([112, 117, 110, 99, 116] : List UInt8)))] H fun fr H => aw_if 60 H hm (fun hb hm H => ?_) fun hb hm H => ?_)
 ·refine aw_sq (aw_dw 27 6 [(1, []), (0, [1]), (2, []), (3, []), (4, []), (5, [])] ?_)
  refine at_t1 63 (.agg (e_A4_uint64 x5)) h14 [(1, h10.size)] (g.prot) H (fun fr => .of (s_ldA (by kernel_rfl) (A.la 0 0 4))) (fun fr H => ?_)
  have A1 := A.prot2 0 (pr := [h10.size]) (.cons 0 rfl (by simp [Ck.ids]) .nil)
  obtain ⟨x20, hx, hm⟩ := bind_some hm
  obtain ⟨v1, h40, hr, rfl, A1⟩ := ok_class_Range (av := [Ab 33, Ab 126]) hx A1
  replace A := A.p00 A1
  refine at_t1 62 (.agg (e_A4_uint64 x20)) h40 [(1, h10.size)] (h10.size :: g.prot) H (fun fr => Steps.call (by kernel_rfl) hr) (fun fr H => ?_)
  obtain ⟨x21, hx, hm⟩ := bind_some hm
  obtain ⟨v1, h41, hr, rfl, A1⟩ := ok_class_Set_Not (av := [.agg (e_A4_uint64 x5)]) hx (A.cut 0)
  replace A := A.g00 A1
  refine at_t1 64 (.agg (e_A4_uint64 x21)) h41 [(1, h10.size)] (g.prot) H (fun fr => Steps.call (by kernel_rfl) hr) (fun fr H => ?_)
  obtain ⟨x22, hx, hm⟩ := bind_some hm
  obtain ⟨v1, h42, hr, rfl, A1⟩ := ok_class_Set_And (av := [.agg (e_A4_uint64 x20), .agg (e_A4_uint64 x21)]) hx (A.cut 0)
  replace A := A.g00 A1
  refine at_t1 65 (.agg (e_A4_uint64 x22)) h42 [(1, h10.size)] (g.prot) H (fun fr => Steps.call (by kernel_rfl) hr) (fun fr H => ?_)
  obtain ⟨h43, hx, A⟩ := A.s4 0 (e_A4_uint64 x22) [_, _, _, _]
  refine at_t0 (.tuple []) h43 [(1, h10.size)] (g.prot) H (fun fr => .of (s_stG (by kernel_rfl) (stG_st hx rfl))) (fun fr H => ?_)
  refine at_L 1 [(3, .bool true)] H fun fr H => aw_rt ?_
  obtain ⟨rfl, rfl⟩ := injB hm
  refine ⟨.inl rfl, .tuple [.agg (e_A4_uint64 x22), .bool true], resL_many (.cell (rT H) (load_ldA (by kernel_rfl) (by kernel_rfl) (A.la 4 0 4)) (.tmp (rT H) .nil)), ?_⟩
  replace A := A.d0
  exact ⟨rfl, A⟩
 refine aw_ks 3 id ?_
 obtain ⟨h44, hx, A⟩ := A.s4 0 [Au 0, Au 0, Au 0, Au 0] [_, _, _, _]
 refine at_gS 1 [] hx H fun fr t H => ?_
 refine at_L 1 [(3, .bool false)] H fun fr H => aw_rt ?_
 obtain ⟨rfl, rfl⟩ := injB hm
 refine ⟨.inl rfl, .tuple [.agg [Au 0, Au 0, Au 0, Au 0], .bool false], resL_many (.cell (rT H) (load_ldA (by kernel_rfl) (by kernel_rfl) (A.la 4 0 4)) (.tmp (rT H) .nil)), ?_⟩
 replace A := A.d0
 exact ⟨rfl, A⟩
def M_bracket_scan_named (p0 : S_bracket_scan) : Option (Bool × S_bracket_scan) :=
 (subS p0.s_ (some p0.at_) none).bind fun x1 => need (decide (x1.length ≤ 4294967280)) <| iteB (!((Lib.cut x1 ([58, 93] : List UInt8)).2.2)) (some (false, p0)) ((M_class_Named ((Lib.cut x1 ([58, 93] : List UInt8)).1)).bind fun (x2, x3) => (M_class_Set_Or p0.set_ x2).bind fun x4 => some (x3, (⟨p0.s_, IntKind.i64.wrap (p0.at_ + (IntKind.i64.wrap ((((Lib.cut x1 ([58, 93] : List UInt8)).1).length : Int) + 2))), p0.glob_, x4⟩ : S_bracket_scan)))
theorem ok_bracket_scan_named {p0 bp0 q0 u0} (hm : M_bracket_scan_named p0 = some (q0, u0)) (A : HH g h [.obj bp0 (.cells none 2 (e_S_bracket_scan p0))] F) (hc : canL (cfg.still 105) av = [.ptr (some (bp0, 0))] := by kernel_rfl) : ∃ v h', Runs cfg g h 105 av v h' ∧ v = .bool q0 ∧ HH g h' [.obj bp0 (.cells none 2 (e_S_bracket_scan u0))] F := by
 refine rq1 48 [.tmp 2] hc ?_
 clear hc
 unfold M_bracket_scan_named at hm
 refine bg 48 [(0, .ptr (some (bp0, 0)))] fun fr H => ?_
 refine aw_sr 1 (at_L 1 [] H fun fr H => aw_sq (aw_dg 1 17 ?_))
 refine at_gl 3 [] 11 0 0 A H fun fr t H => ?_
 refine at_gl 3 [] 15 0 1 A H fun fr t H => ?_
 obtain ⟨x1, hx, hm⟩ := bind_some hm
 refine at_l1 16 (.str x1) h H (fun fr => .of (s_subS (k := .i64) (k' := .i64) (lo := (some p0.at_)) (hi := none) (by kernel_rfl) hx)) fun fr t H => ?_
 obtain ⟨hb, hm⟩ := need_some hm
 refine at_l1 17 (.tuple [.str ((Lib.cut x1 ([58, 93] : List UInt8)).1), .str ((Lib.cut x1 ([58, 93] : List UInt8)).2.1), .bool ((Lib.cut x1 ([58, 93] : List UInt8)).2.2)]) h H (fun fr => Steps.call (by kernel_rfl) (runsCut (C := cfg) (f := 110) (a := 0) (by kernel_rfl) (l := exts) rfl (by kernel_rfl) hb)) fun fr t H => ?_
 refine at_L 7 [(3, .str ((Lib.cut x1 ([58, 93] : List UInt8)).1)), (5, .bool ((Lib.cut x1 ([58, 93] : List UInt8)).2.2))] H fun fr H => aw_sq (aw_sr 2 (at_L 2 [(22, .bool (!((Lib.cut x1 ([58, 93] : List UInt8)).2.2)))] H fun fr H => aw_if 22 H hm (fun hb hm H => ?_) fun hb hm H => ?_))
 ·refine aw_sr 1 (at_L 1 [(2, .bool false)] H fun fr H => aw_rt ?_)
  obtain ⟨rfl, rfl⟩ := injB hm
  exact ⟨.inl rfl, _, rH H, rfl, A⟩
 refine aw_ks 8 id ?_
 obtain ⟨⟨x2, x3⟩, hx, hm⟩ := bind_some hm
 obtain ⟨v1, h1, hr, rfl, A1⟩ := ok_class_Named (av := [.str ((Lib.cut x1 ([58, 93] : List UInt8)).1)]) hx (A.cut 0)
 replace A := A.g00 A1
 refine at_gc1 1 [] 25 hr H fun fr t H => ?_
 obtain ⟨h2, e1, A⟩ := A.pu (.cells none 2 [Au 0, Au 0, Au 0, Au 0])
 refine at_gn 3 [(26, .agg (e_A4_uint64 x2)), (27, .bool x3)] 6 (.ptr (some (h1.size, 0))) e1 H fun fr t H => ?_
 obtain ⟨h3, hx, A⟩ := A.s0 0 (e_A4_uint64 x2) [_, _, _, _]
 refine at_lS hx H fun fr t H => ?_
 refine at_se 1 [(0, .ptr (some (bp0, 0))), (3, .str ((Lib.cut x1 ([58, 93] : List UInt8)).1)), (5, .bool x3), (6, .ptr (some (h1.size, 0)))] H fun fr H => at_nl id (aw_sq (aw_dg 5 10 ?_))
 refine at_g1 4 [(28, .ptr (some (bp0, 0)))] 32 _ _ H (fun fr => .of (s_ldA (by kernel_rfl) (A.ldA 1 rfl (o := 3) (n := 4) ⟨Nat.le_of_ble_eq_true rfl, rfl⟩))) fun fr t H => ?_
 refine at_l1 33 _ _ H (fun fr => .of (s_ldA (by kernel_rfl) (A.ldA 0 rfl (o := 0) (n := 4) ⟨Nat.le_of_ble_eq_true rfl, rfl⟩))) fun fr t H => ?_
 obtain ⟨x4, hx, hm⟩ := bind_some hm
 obtain ⟨v1, h4, hr, rfl, A1⟩ := ok_class_Set_Or (av := [.agg (e_A4_uint64 p0.set_), .agg (e_A4_uint64 x2)]) hx (A.cut 0)
 replace A := A.g00 A1
 refine at_lc1 34 hr H fun fr t H => ?_
 obtain ⟨h5, hx, A⟩ := A.s1 3 (e_A4_uint64 x4) [_, _, _, _, _, _, _]
 refine at_gS 2 [] hx H fun fr t H => ?_
 refine at_ns 11 id (at_gl 3 [(37, .ptr (some (bp0, 0)))] 40 1 1 A H fun fr t H => ?_)
 obtain ⟨h6, hx, A⟩ := A.s1 1 [Ai (IntKind.i64.wrap (p0.at_ + (IntKind.i64.wrap ((((Lib.cut x1 ([58, 93] : List UInt8)).1).length : Int) + 2))))] [_, _, _, _, _, _, _]
 refine at_gs 6 [] hx H fun fr t H => ?_
 refine at_ns 2 id (at_L 2 [(2, .bool x3)] H fun fr H => aw_rt ?_)
 obtain ⟨rfl, rfl⟩ := injB hm
 refine ⟨.inl rfl, .bool x3, rH H, ?_⟩
 replace A := A.k1 1
 exact ⟨rfl, A⟩
def M_class_All : Option (A4_uint64) :=
 (M_class_Set_Not (⟨(0 : Int), (0 : Int), (0 : Int), (0 : Int)⟩ : A4_uint64)).bind fun x1 => some x1
theorem ok_class_All {q0} (hm : M_class_All = some q0) (A : HH g h [] F) (hc : canL (cfg.still 93) av = [] := by kernel_rfl) : ∃ v h', Runs cfg g h 93 av v h' ∧ v = .agg (e_A4_uint64 q0) ∧ HH g h' [] F := by
 refine rq1 3 [.cell 0 66] hc ?_
 clear hc
 unfold M_class_All at hm
 refine bg 3 [] fun fr H => ?_
 refine aw_sr 1 ?_
 obtain ⟨h1, e1, A⟩ := A.pu (.cells none 2 [Au 0, Au 0, Au 0, Au 0])
 refine at_ln 0 (.ptr (some (h.size, 0))) e1 H fun fr t H => ?_
 refine at_ns 3 id ?_
 obtain ⟨x1, hx, hm⟩ := bind_some hm
 obtain ⟨v1, h2, hr, rfl, A1⟩ := ok_class_Set_Not (av := [.agg [Au 0, Au 0, Au 0, Au 0]]) hx (A.cut 0)
 replace A : HH g h2 [.obj h.size (.cells none 2 [Au (0 : Int), Au (0 : Int), Au (0 : Int), Au (0 : Int)])] F := A.glue0 (n := 0) A1
 refine at_gc1 1 [] 2 hr H fun fr t H => ?_
 obtain ⟨h3, hx, A⟩ := A.s0 0 (e_A4_uint64 x1) [_, _, _, _]
 refine at_lS hx H fun fr t H => ?_
 refine at_nl id (aw_rt ?_)
 obtain rfl := injA hm
 refine ⟨.inl rfl, .agg (e_A4_uint64 x1), resL_one (.cell (rT H) (load_ldA (by kernel_rfl) (by kernel_rfl) (A.la 0 0 4)) .nil), ?_⟩
 replace A := A.d0
 exact ⟨rfl, A⟩
def M_stringslite_IndexByte (p0 : List UInt8) (p1 : Int) : Option (Int) :=
 (X_IndexByte p0 p1).bind fun x1 => some x1
theorem ok_stringslite_IndexByte {p0 p1 q0} (hm : M_stringslite_IndexByte p0 p1 = some q0) (A : HH g h [] F) (hc : canL (cfg.still 109) av = [.str p0, Ab p1] := by kernel_rfl) : ∃ v h', Runs cfg g h 109 av v h' ∧ v = Ai q0 ∧ HH g h' [] F := by
 refine rq1 8 [.tmp 4] hc ?_
 clear hc
 unfold M_stringslite_IndexByte at hm
 refine bg 8 [(0, .str p0), (1, Ab p1)] fun fr H => ?_
 refine aw_sr 1 (at_S 1 [] 4 H fun fr H => ?_)
 obtain ⟨x1, hx, hm⟩ := bind_some hm
 refine at_g1 2 [] 7 (Ai x1) h H (fun fr => Steps.call (by kernel_rfl) (runsIdx (C := cfg) (f := 112) (by kernel_rfl) (l := exts) rfl (by kernel_rfl) hx)) fun fr t H => ?_
 refine at_L 1 [(4, Ai x1)] H fun fr H => aw_rt ?_
 obtain rfl := injA hm
 exact ⟨.inl rfl, _, rH H, rfl, A⟩
end
end Go.Av.L
