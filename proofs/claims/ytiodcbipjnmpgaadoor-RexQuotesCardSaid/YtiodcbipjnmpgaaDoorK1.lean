/-
 Models of functions, and that the abstract run tells them. Written by lift2.py.
-/
import Derived.Test.YtiodcbipjnmpgaaDoorKCfg
import Derived.Test.YtiodcbipjnmpgaaDoorK0
namespace Go.Av.L
open Go.Av Go.Lib
set_option maxRecDepth 10000
set_option linter.unusedVariables false
set_option linter.unusedSimpArgs false
variable {g : Gd} {h : AHeap} {F : List Ck} {av : List AVal}
noncomputable section
def M_stringslite_IndexByte (p0 : List UInt8) (p1 : Int) : Option (Int) :=
 (X_IndexByte p0 p1).bind fun x1 => some x1
theorem ok_stringslite_IndexByte {p0 p1 q0} (hm : M_stringslite_IndexByte p0 p1 = some q0) (A : HH g h [] F) (hc : canL (cfg.still 26) av = [.str p0, Ab p1] := by kernel_rfl) : ∃ v h', Runs cfg g h 26 av v h' ∧ v = Ai q0 ∧ HH g h' [] F := by
 refine rq1 8 [.tmp 4] hc ?_
 clear hc
 unfold M_stringslite_IndexByte at hm
 refine bg 8 [(0, .str p0), (1, Ab p1)] fun fr H => ?_
 refine aw_sr 1 (at_S 1 [] 4 H fun fr H => ?_)
 obtain ⟨x1, hx, hm⟩ := bind_some hm
 refine at_g1 2 [] 7 (Ai x1) h H (fun fr => Steps.call (by kernel_rfl) (runsIdx (C := cfg) (f := 36) (by kernel_rfl) (l := exts) rfl (by kernel_rfl) hx)) fun fr t H => ?_
 refine at_L 1 [(4, Ai x1)] H fun fr H => aw_rt ?_
 obtain rfl := injA hm
 exact ⟨.inl rfl, _, rH H, rfl, A⟩
def M_strings_IndexByte (p0 : List UInt8) (p1 : Int) : Option (Int) :=
 (M_stringslite_IndexByte p0 p1).bind fun x1 => some x1
theorem ok_strings_IndexByte {p0 p1 q0} (hm : M_strings_IndexByte p0 p1 = some q0) (A : HH g h [] F) (hc : canL (cfg.still 18) av = [.str p0, Ab p1] := by kernel_rfl) : ∃ v h', Runs cfg g h 18 av v h' ∧ v = Ai q0 ∧ HH g h' [] F := by
 refine rq1 8 [.tmp 4] hc ?_
 clear hc
 unfold M_strings_IndexByte at hm
 refine bg 8 [(0, .str p0), (1, Ab p1)] fun fr H => ?_
 refine aw_sr 1 (at_S 1 [] 4 H fun fr H => ?_)
 obtain ⟨x1, hx, hm⟩ := bind_some hm
 obtain ⟨v1, h1, hr, rfl, A1⟩ := ok_stringslite_IndexByte (av := [.str p0, Ab p1]) hx (A.cut 0)
 replace A := A.g00 A1
 refine at_gc1 2 [] 7 hr H fun fr t H => ?_
 refine at_L 1 [(4, Ai x1)] H fun fr H => aw_rt ?_
 obtain rfl := injA hm
 exact ⟨.inl rfl, _, rH H, rfl, A⟩
def M_rex_walk_escaped_sPO (p0 : S_rex_walk) : Option (Int × S_rex_walk × (List S_tree_Node)) :=
 (iteB p0.extended_ (need (decide (([46, 42, 91, 93, 94, 36, 92, 47] : List UInt8).length + ([40, 41, 124, 43, 63, 123, 125] : List UInt8).length ≤ 9223372036854775807)) <| some (([46, 42, 91, 93, 94, 36, 92, 47] : List UInt8) ++ ([40, 41, 124, 43, 63, 123, 125] : List UInt8))) (some ([46, 42, 91, 93, 94, 36, 92, 47] : List UInt8)) : Option (((List UInt8)))).bind fun x1 => (iteB ((IntKind.i64.wrap (p0.at_ + 1)) == (p0.s_.length : Int)) (some true) ((ixS p0.s_ (IntKind.i64.wrap (p0.at_ + 1))).bind fun x3 => (M_strings_IndexByte x1 x3).bind fun x4 => some (decide (x4 < 0))) : Option (Bool)).bind fun x2 => iteB x2 ((M_rex_walk_fail_sPOI p0 p0.at_).bind fun x5 => some ((0 : Int), (⟨x5.s_, x5.at_, x5.extended_, (⟨p0.t_.Nodes, x5.t_.Root⟩ : S_tree_Tree), x5.groups_, x5.depth_, x5.wrong_, x5.full_⟩ : S_rex_walk), p0.t_.Nodes)) ((ixS p0.s_ (IntKind.i64.wrap ((IntKind.i64.wrap (p0.at_ + 2)) - 1))).bind fun x6 => (M_rex_walk_one_sPOI (⟨p0.s_, IntKind.i64.wrap (p0.at_ + 2), p0.extended_, p0.t_, p0.groups_, p0.depth_, p0.wrong_, p0.full_⟩ : S_rex_walk) x6).bind fun (x7, x8, x9) => some (x7, (⟨x8.s_, x8.at_, x8.extended_, (⟨x9, x8.t_.Root⟩ : S_tree_Tree), x8.groups_, x8.depth_, x8.wrong_, x8.full_⟩ : S_rex_walk), x9))
theorem ok_rex_walk_escaped_sPO {p0 bp0 rp0_3 q0 u0 u1} (hm : M_rex_walk_escaped_sPO p0 = some (q0, u0, u1)) (A : HH g h [.obj bp0 (.cells none 2 (w_rex_walk_3 p0 (rowV rp0_3 p0.t_.Nodes.length))), .lst rp0_3 45 (lst e_S_tree_Node p0.t_.Nodes)] F) (hc : canL (cfg.still 51) av = [.ptr (some (bp0, 0))] := by kernel_rfl) : ∃ v h', Runs cfg g h 51 av v h' ∧ ∃ (r'1 : Option Nat), v = Ai q0 ∧ HH g h' [.obj bp0 (.cells none 2 (w_rex_walk_3 u0 (rowV r'1 u1.length))), .lst r'1 45 (lst e_S_tree_Node u1)] F := by
 refine rq1 61 [.tmp 2] hc ?_
 clear hc
 unfold M_rex_walk_escaped_sPO at hm
 refine bg 61 [(0, .ptr (some (bp0, 0)))] fun fr H => ?_
 refine aw_sr 1 (at_S 1 [] 1 H fun fr H => at_L 1 [(3, .str ([46, 42, 91, 93, 94, 36, 92, 47] : List UInt8))] H fun fr H => aw_sq ?_)
 obtain ⟨o1, ho, hm⟩ := bind_some hm
 refine aw_mono (Q' := fun e fr' h' => (∃ x1, e = .normal ∧ x1 = o1 ∧ Has fr' 61 [(0, .ptr (some (bp0, 0))), (3, .str x1)] ∧ HH g h' [.obj bp0 (.cells none 2 (w_rex_walk_3 p0 (rowV rp0_3 p0.t_.Nodes.length))), .lst rp0_3 45 (lst e_S_tree_Node p0.t_.Nodes)] F) ∨ False) ?_ ?_
 ·replace hm := ho
  clear ho
  refine aw_sr 4 (at_gl 3 [] 7 0 2 A H fun fr t H => ?_)
  refine at_nl id (aw_if 7 H hm (fun hb hm H => ?_) fun hb hm H => ?_)
  ·refine aw_rg 3 (at_sl 1 [(8, .str ([46, 42, 91, 93, 94, 36, 92, 47] : List UInt8))] H fun fr H => ?_)
   obtain ⟨hb, hm⟩ := need_some hm
   refine at_l1 9 (.str (([46, 42, 91, 93, 94, 36, 92, 47] : List UInt8) ++ ([40, 41, 124, 43, 63, 123, 125] : List UInt8))) h H (fun fr => .of (s_cat (by kernel_rfl) hb)) fun fr t H => ?_
   refine at_se 1 [(0, .ptr (some (bp0, 0))), (3, .str (([46, 42, 91, 93, 94, 36, 92, 47] : List UInt8) ++ ([40, 41, 124, 43, 63, 123, 125] : List UInt8)))] H fun fr H => at_nil ?_
   exact .inl ⟨_, rfl, injA hm, H.ls, A⟩
  exact aw_sk (.inl ⟨_, rfl, injA hm, H.ls, A⟩)
 clear ho
 clear A
 intro e fr h1 hQ
 rcases hQ with ⟨x1, rfl, rfl, H, A⟩ | hF
 ·show AW _ _ _ _ _ _ _
  refine aw_sq (aw_sq (aw_dg 4 26 ?_))
  refine at_gl 3 [] 13 0 1 A H fun fr t H => ?_
  refine at_gl 4 [(14, Ai (IntKind.i64.wrap (p0.at_ + 1)))] 18 0 0 A H fun fr t H => ?_
  refine at_sl 3 [(21, .bool ((IntKind.i64.wrap (p0.at_ + 1)) == (p0.s_.length : Int)))] H fun fr H => ?_
  obtain ⟨x2, ho, hm⟩ := bind_some hm
  refine at_cl 14 (fun fr' h' => Has fr' 61 [(0, .ptr (some (bp0, 0))), (35, .bool x2)] ∧ HH g h' [.obj bp0 (.cells none 2 (w_rex_walk_3 p0 (rowV rp0_3 p0.t_.Nodes.length))), .lst rp0_3 45 (lst e_S_tree_Node p0.t_.Nodes)] F) ?_ ?_
  ·rcases iteB_some ho with ⟨hb, hm⟩ | ⟨hb, hm⟩
   ·replace H := H.kn 21 hb
    refine at_sl 14 [(35, .bool true)] H fun fr H => ?_
    obtain rfl := injA hm
    exact at_nil ⟨H.ls, A⟩
   replace H := H.kn 21 hb
   refine at_gl 4 [(22, .str x1)] 26 0 0 A H fun fr t H => ?_
   refine at_gl 3 [] 30 0 1 A H fun fr t H => ?_
   obtain ⟨x3, hx, hm⟩ := bind_some hm
   refine at_g1 1 [] 32 (Ab x3) h1 H (fun fr => .of (s_ixS (by kernel_rfl) hx)) fun fr t H => ?_
   obtain ⟨x4, hx, hm⟩ := bind_some hm
   obtain ⟨v1, h3, hr, rfl, A1⟩ := ok_strings_IndexByte (av := [.str x1, Ab x3]) hx (A.cut 0)
   replace A := A.g00 A1
   refine at_lc1 33 hr H fun fr t H => ?_
   refine at_sl 2 [(35, .bool (decide (x4 < 0)))] H fun fr H => ?_
   obtain rfl := injA hm
   exact at_nil ⟨H.ls, A⟩
  clear A
  intro t fr h2 hK
  obtain ⟨H, A⟩ := hK
  refine at_nl id (aw_if 35 H hm (fun hb hm H => ?_) fun hb hm H => ?_)
  ·refine aw_sr 6 (at_gl 4 [(36, .ptr (some (bp0, 0)))] 40 0 1 A H fun fr t H => ?_)
   obtain ⟨x5, hx, hm⟩ := bind_some hm
   obtain ⟨v1, h4, hr, rfl, A1⟩ := ok_rex_walk_fail_sPOI (av := [.ptr (some (bp0, 0)), Ai p0.at_]) hx (A.cut 2)
   replace A := A.g22 A1
   refine at_lc0 hr H fun fr t H => ?_
   refine at_ns 1 id (at_L 1 [(2, Ai 0)] H fun fr H => aw_rt ?_)
   obtain ⟨rfl, rfl, rfl⟩ := injC hm
   exact ⟨.inl rfl, _, rH H, _, rfl, A⟩
  refine aw_ks 8 id (at_gl 3 [(42, .ptr (some (bp0, 0)))] 45 0 1 A H fun fr t H => ?_)
  obtain ⟨h5, hx, A⟩ := A.s0 1 [Ai (IntKind.i64.wrap (p0.at_ + 2))] [_, _, _, _, _, _, _, _, _]
  refine at_gs 3 [] hx H fun fr t H => ?_
  refine at_nl id (aw_sq (aw_dg 8 13 ?_))
  refine at_gl 4 [(49, .ptr (some (bp0, 0)))] 53 0 0 A H fun fr t H => ?_
  refine at_gl 3 [] 57 0 1 A H fun fr t H => ?_
  obtain ⟨x6, hx, hm⟩ := bind_some hm
  refine at_g1 1 [] 59 (Ab x6) h5 H (fun fr => .of (s_ixS (by kernel_rfl) hx)) fun fr t H => ?_
  obtain ⟨⟨x7, x8, x9⟩, hx, hm⟩ := bind_some hm
  obtain ⟨v1, h6, hr, r1, rfl, A1⟩ := ok_rex_walk_one_sPOI (av := [.ptr (some (bp0, 0)), Ab x6]) hx (A.cut 2)
  replace A := A.g22 A1
  refine at_lc1 60 hr H fun fr t H => ?_
  refine at_L 1 [(2, Ai x7)] H fun fr H => aw_rt ?_
  obtain ⟨rfl, rfl, rfl⟩ := injC hm
  exact ⟨.inl rfl, _, rH H, _, rfl, A⟩
 exact hF.elim
def M_rex_walk_nest_sPOIO_L0 (p1 : Int) (p2 : List Int) (s : (List UInt8) × Int × Bool × Int × Int × Int × Int × Bool × (List S_tree_Node) × Int × Int) : Option (((List UInt8) × Int × Bool × Int × Int × Int × Int × Bool × (List S_tree_Node) × Int × Int) ⊕ (((List UInt8) × Int × Bool × Int × Int × Int × Int × Bool × (List S_tree_Node) × Int))) :=
 match s with
 | (x5, x6, x7, x8, x9, x10, x11, x12, x13, x14, x15) => iteB (decide (x15 ≥ 0)) ((ixV p2 x15).bind fun x26 => (M_rex_walk_add_sPOR (⟨x5, x6, x7, (⟨x13, x8⟩ : S_tree_Tree), x9, x10, x11, x12⟩ : S_rex_walk) (⟨p1, x26, x14, (0 : Int), (0 : Int), (0 : Int), (⟨(0 : Int), (0 : Int), (0 : Int), (0 : Int)⟩ : A4_uint64)⟩ : S_tree_Node)).bind fun (x27, x28, x29) => some (.inl (x28.s_, x28.at_, x28.extended_, x28.t_.Root, x28.groups_, x28.depth_, x28.wrong_, x28.full_, x29, x27, IntKind.i64.wrap (x15 - 1)))) (some (.inr (x5, x6, x7, x8, x9, x10, x11, x12, x13, x14)))
def M_rex_walk_nest_sPOIO (p0 : S_rex_walk) (p1 : Int) (p2 : List Int) : Option (Int × S_rex_walk × (List S_tree_Node)) :=
 iteB ((p2.length : Int) == 0) ((M_rex_walk_add_sPOR p0 (⟨(0 : Int), (0 : Int), (0 : Int), (0 : Int), (0 : Int), (0 : Int), (⟨(0 : Int), (0 : Int), (0 : Int), (0 : Int)⟩ : A4_uint64)⟩ : S_tree_Node)).bind fun (x1, x2, x3) => some (x1, (⟨x2.s_, x2.at_, x2.extended_, (⟨x3, x2.t_.Root⟩ : S_tree_Tree), x2.groups_, x2.depth_, x2.wrong_, x2.full_⟩ : S_rex_walk), x3)) ((ixV p2 (IntKind.i64.wrap ((p2.length : Int) - 1))).bind fun x4 => (loop (M_rex_walk_nest_sPOIO_L0 p1 p2) (p0.s_, p0.at_, p0.extended_, p0.t_.Root, p0.groups_, p0.depth_, p0.wrong_, p0.full_, p0.t_.Nodes, x4, IntKind.i64.wrap ((p2.length : Int) - 2))).bind fun (x16, x17, x18, x19, x20, x21, x22, x23, x24, x25) => some (x25, (⟨x16, x17, x18, (⟨x24, x19⟩ : S_tree_Tree), x20, x21, x22, x23⟩ : S_rex_walk), x24))
theorem ok_rex_walk_nest_sPOIO {p0 p1 p2 bp0 rp0_3 rp2 q0 u0 u1} (hm : M_rex_walk_nest_sPOIO p0 p1 p2 = some (q0, u0, u1)) (A : HH g h [.obj bp0 (.cells none 2 (w_rex_walk_3 p0 (rowV rp0_3 p0.t_.Nodes.length))), .lst rp0_3 45 (lst e_S_tree_Node p0.t_.Nodes), .lst rp2 3 (lst (eI .i64) p2)] F) (hc : canL (cfg.still 22) av = [.ptr (some (bp0, 0)), Ai p1, rowV rp2 p2.length] := by kernel_rfl) : ∃ v h', Runs cfg g h 22 av v h' ∧ ∃ (r'1 : Option Nat), v = Ai q0 ∧ HH g h' [.obj bp0 (.cells none 2 (w_rex_walk_3 u0 (rowV r'1 u1.length))), .lst r'1 45 (lst e_S_tree_Node u1), .lst rp2 3 (lst (eI .i64) p2)] F := by
 refine rq1 38 [.tmp 6] hc ?_
 clear hc
 unfold M_rex_walk_nest_sPOIO at hm
 refine bg 38 [(0, .ptr (some (bp0, 0))), (1, Ai p1), (2, rowV rp2 p2.length)] fun fr H => ?_
 refine aw_sr 1 (at_L 1 [] H fun fr H => aw_sq (aw_sr 3 (at_L 3 [(11, .bool ((p2.length : Int) == 0))] H fun fr H => aw_if 11 H hm (fun hb hm H => ?_) fun hb hm H => ?_)))
 ·refine aw_sr 4 ?_
  obtain ⟨⟨x1, x2, x3⟩, hx, hm⟩ := bind_some hm
  obtain ⟨v1, h1, hr, r1, rfl, A1⟩ := ok_rex_walk_add_sPOR (av := [.ptr (some (bp0, 0)), .agg [Ai 0, Ai 0, Ai 0, Ai 0, Ai 0, Ai 0, Au 0, Au 0, Au 0, Au 0]]) hx (A.cut 2)
  replace A := A.g22 A1
  refine at_gc1 2 [] 14 hr H fun fr t H => ?_
  refine at_L 1 [(6, Ai x1)] H fun fr H => aw_rt ?_
  obtain ⟨rfl, rfl, rfl⟩ := injC hm
  exact ⟨.inl rfl, _, rH H, _, rfl, A⟩
 refine aw_ks 7 id ?_
 obtain ⟨x4, hx, hm⟩ := bind_some hm
 obtain ⟨i1, er1, _, hx, hq1⟩ := HH.ixO (encI .i64) (by decide) A 2 (xs := p2) rfl hx
 refine at_g1 4 [] 19 (.ptr (some (i1, (IntKind.i64.wrap ((p2.length : Int) - 1)).toNat * 1))) h H (fun fr => .of (s_ixL (s := rowS rp2 p2.length) (by kernel_rfl) hx)) fun fr t H => ?_
 refine at_l1 20 _ _ H (fun fr => .of (s_ld (by kernel_rfl) (row_ld1 (encI .i64) (HH.row A 2 rfl er1) hq1 (o := 0) rfl))) fun fr t H => ?_
 refine at_L 1 [(7, Ai x4)] H fun fr H => aw_sq (aw_sr 4 (at_L 4 [(8, Ai (IntKind.i64.wrap ((p2.length : Int) - 2)))] H fun fr H => aw_block (id := 0) (by kernel_rfl) ?_))
 obtain ⟨o1, ho, hm⟩ := bind_some hm
 refine aw_mono (Q' := fun e fr' h' => (∃ x16 x17 x18 x19 x20 x21 x22 x23 x24 x25, e = .exit 0 ∧ (x16, x17, x18, x19, x20, x21, x22, x23, x24, x25) = o1 ∧ ∃ r3, Has fr' 38 [(7, Ai x25)] ∧ HH g h' [.obj bp0 (.cells none 2 [.str x16, Ai x17, .bool x18, rowV r3 x24.length, Ai x19, Ai x20, Ai x21, Ai x22, .bool x23]), .lst r3 45 (lst e_S_tree_Node x24), .lst rp2 3 (lst (eI .i64) p2)] F) ∨ False) ?_ ?_
 ·refine aw_loop (by kernel_rfl) (fun (s : (List UInt8) × Int × Bool × Int × Int × Int × Int × Bool × (List S_tree_Node) × Int × Int) fr' h' => ∃ x5 x6 x7 x8 x9 x10 x11 x12 x13 x14 x15, (x5, x6, x7, x8, x9, x10, x11, x12, x13, x14, x15) = s ∧ ∃ r2, Has fr' 38 [(0, .ptr (some (bp0, 0))), (1, Ai p1), (2, rowV rp2 p2.length), (7, Ai x14), (8, Ai x15)] ∧ HH g h' [.obj bp0 (.cells none 2 [.str x5, Ai x6, .bool x7, rowV r2 x13.length, Ai x8, Ai x9, Ai x10, Ai x11, .bool x12]), .lst r2 45 (lst e_S_tree_Node x13), .lst rp2 3 (lst (eI .i64) p2)] F) ho ⟨_, _, _, _, _, _, _, _, _, _, _, rfl, rp0_3, H.ls, A⟩ ?_
  clear ho hm H A
  intro s q fr h2 hI hm
  obtain ⟨x5, x6, x7, x8, x9, x10, x11, x12, x13, x14, x15, rfl, r2, H, A⟩ := hI
  unfold M_rex_walk_nest_sPOIO_L0 at hm
  refine aw_sq (aw_sr 2 (at_L 2 [(25, .bool (decide (x15 ≥ 0)))] H fun fr H => aw_if 25 H hm (fun hb hm H => ?_) fun hb hm H => ?_))
  ·refine aw_kn id (aw_sq (aw_block (id := 1) (by kernel_rfl) ?_))
   refine aw_rg 10 ?_
   obtain ⟨x26, hx, hm⟩ := bind_some hm
   obtain ⟨i2, er2, _, hx, hq2⟩ := HH.ixO (encI .i64) (by decide) A 2 (xs := p2) rfl hx
   refine at_g1 4 [(28, .ptr (some (bp0, 0))), (29, Ai p1)] 32 (.ptr (some (i2, x15.toNat * 1))) h2 H (fun fr => .of (s_ixL (s := rowS rp2 p2.length) (by kernel_rfl) hx)) fun fr t H => ?_
   refine at_l1 33 _ _ H (fun fr => .of (s_ld (by kernel_rfl) (row_ld1 (encI .i64) (HH.row A 2 rfl er2) hq2 (o := 0) rfl))) fun fr t H => ?_
   obtain ⟨⟨x27, x28, x29⟩, hx, hm⟩ := bind_some hm
   obtain ⟨v1, h3, hr, r4, rfl, A1⟩ := ok_rex_walk_add_sPOR (av := [.ptr (some (bp0, 0)), .agg [Ai p1, Ai x26, Ai x14, Ai 0, Ai 0, Ai 0, Au 0, Au 0, Au 0, Au 0]]) hx (A.cut 2)
   replace A := A.g22 A1
   refine at_gc1 2 [] 36 hr H fun fr t H => ?_
   refine at_se 1 [(0, .ptr (some (bp0, 0))), (1, Ai p1), (2, rowV rp2 p2.length), (7, Ai x27), (8, Ai x15)] H fun fr H => at_nr 3 id (at_se 3 [(0, .ptr (some (bp0, 0))), (1, Ai p1), (2, rowV rp2 p2.length), (7, Ai x27), (8, Ai (IntKind.i64.wrap (x15 - 1)))] H fun fr H => at_nil ?_)
   exact nx hm ⟨_, _, _, _, _, _, _, _, _, _, _, rfl, _, H.ls, A⟩
  refine aw_exit (i := 0) (by kernel_rfl) ?_
  exact nr hm fun e => .inl ⟨_, _, _, _, _, _, _, _, _, _, rfl, e, _, H.ls, A⟩
 clear ho
 clear A
 intro e fr h4 hQ
 rcases hQ with ⟨x16, x17, x18, x19, x20, x21, x22, x23, x24, x25, rfl, rfl, r3, H, A⟩ | hF
 ·show AW _ _ _ _ _ _ _
  refine aw_sr 2 (at_L 2 [(6, Ai x25)] H fun fr H => aw_rt ?_)
  obtain ⟨rfl, rfl, rfl⟩ := injC hm
  exact ⟨.inl rfl, _, rH H, _, rfl, A⟩
 exact hF.elim
def M_tree_Tree_Right_L0 (p0 : S_tree_Tree) (s : Int) : Option ((Int) ⊕ ((Unit) ⊕ (Bool))) :=
 match s with
 | x1 => iteB (decide (x1 < (p0.Nodes.length : Int))) ((ixV p0.Nodes x1).bind fun x3 => (M_tree_may x3 x1).bind fun x4 => iteB (!x4) (some (.inr (.inr false))) (some (.inl (IntKind.i64.wrap (x1 + 1))))) (some (.inr (.inl ())))
def M_tree_Tree_Right (p0 : S_tree_Tree) : Option (Bool) :=
 iteB (((decide ((p0.Nodes.length : Int) > 1024)) || (decide (p0.Root < 0))) || (decide (p0.Root ≥ (p0.Nodes.length : Int)))) (some false) ((loop (M_tree_Tree_Right_L0 p0) (0 : Int)).bind fun o1 => (match o1 with | .inl _ => some true | .inr x2 => some x2))
theorem ok_tree_Tree_Right {p0 q0} (hm : M_tree_Tree_Right p0 = some q0) (A : HH g h [] F) (hc : canL (cfg.still 8) av = [.agg (e_S_tree_Tree p0)] := by kernel_rfl) : ∃ v h', Runs cfg g h 8 av v h' ∧ v = .bool q0 ∧ HH g h' [] F := by
 refine rq1 35 [.tmp 2] hc ?_
 clear hc
 unfold M_tree_Tree_Right at hm
 refine bg 35 [(0, .agg (e_S_tree_Tree p0))] fun fr H => ?_
 refine aw_sr 2 ?_
 obtain ⟨h1, e1, A⟩ := A.pu (.cells none 2 (e_S_tree_Tree p0))
 refine at_ln 1 (.ptr (some (h.size, 0))) e1 H fun fr t H => ?_
 refine at_L 1 [] H fun fr H => aw_sq (aw_sr 17 (at_gl 1 [] 6 0 0 A H fun fr t H => ?_))
 refine at_sl 3 [(9, .bool (decide ((p0.Nodes.length : Int) > 1024)))] H fun fr H => at_cl 4 (fun fr' h' => h1 = h' ∧ Has fr' 35 [(1, .ptr (some (h.size, 0))), (13, .bool ((decide ((p0.Nodes.length : Int) > 1024)) || (decide (p0.Root < 0))))]) ?_ ?_
 ·cases hb : (decide ((p0.Nodes.length : Int) > 1024) : Bool) with
  | true =>
   replace H := H.kn 9 hb
   exact at_sl 4 [(13, .bool true)] H fun fr H => at_zb H hb
  | false =>
   replace H := H.kn 9 hb
   refine at_gl 1 [] 11 0 1 A H fun fr t H => ?_
   exact at_sl 2 [(13, .bool (decide (p0.Root < 0)))] H fun fr H => at_zb H hb
 intro t fr h' hK
 obtain ⟨e, H⟩ := hK
 subst e
 refine at_sl 1 [(14, .bool ((decide ((p0.Nodes.length : Int) > 1024)) || (decide (p0.Root < 0))))] H fun fr H => at_cl 7 (fun fr' h' => h1 = h' ∧ Has fr' 35 [(1, .ptr (some (h.size, 0))), (21, .bool (((decide ((p0.Nodes.length : Int) > 1024)) || (decide (p0.Root < 0))) || (decide (p0.Root ≥ (p0.Nodes.length : Int)))))]) ?_ ?_
 ·cases hb : ((decide ((p0.Nodes.length : Int) > 1024)) || (decide (p0.Root < 0)) : Bool) with
  | true =>
   replace H := H.kn 14 hb
   exact at_sl 7 [(21, .bool true)] H fun fr H => at_zb H hb
  | false =>
   replace H := H.kn 14 hb
   refine at_gl 1 [] 16 0 1 A H fun fr t H => ?_
   refine at_gl 1 [] 18 0 0 A H fun fr t H => ?_
   exact at_sl 3 [(21, .bool (decide (p0.Root ≥ (p0.Nodes.length : Int))))] H fun fr H => at_zb H hb
 intro t fr h' hK
 obtain ⟨e, H⟩ := hK
 subst e
 refine at_nl id (aw_if 21 H hm (fun hb hm H => ?_) fun hb hm H => ?_)
 ·refine aw_sr 1 (at_L 1 [(2, .bool false)] H fun fr H => aw_rt ?_)
  obtain rfl := injA hm
  refine ⟨.inl rfl, .bool false, rH H, ?_⟩
  replace A := A.d0
  exact ⟨rfl, A⟩
 refine aw_kn id (aw_sq (aw_sr 4 (at_gl 1 [] 23 0 0 A H fun fr t H => ?_)))
 refine at_L 2 [(24, Ai (p0.Nodes.length : Int)), (25, Ai 0)] H fun fr H => aw_block (id := 0) (by kernel_rfl) ?_
 obtain ⟨o1, ho, hm⟩ := bind_some hm
 refine aw_mono (Q' := fun e fr' h' => (e = .exit 0 ∧ .inl () = o1 ∧ Has fr' 35 [] ∧ HH g h' [.obj h.size (.cells none 2 (e_S_tree_Tree p0))] F) ∨ (∃ x2, e = .ret ∧ .inr x2 = o1 ∧ Has fr' 35 [(2, .bool x2)] ∧ HH g h' [.obj h.size (.cells none 2 (e_S_tree_Tree p0))] F) ∨ False) ?_ ?_
 ·refine aw_loop (by kernel_rfl) (fun (s : Int) fr' h' => ∃ x1, x1 = s ∧ Has fr' 35 [(23, vs e_S_tree_Node p0.Nodes), (24, Ai (p0.Nodes.length : Int)), (25, Ai x1)] ∧ HH g h' [.obj h.size (.cells none 2 (e_S_tree_Tree p0))] F) ho ⟨_, rfl, H.ls, A⟩ ?_
  clear ho hm H A
  intro s q fr h2 hI hm
  obtain ⟨x1, rfl, H, A⟩ := hI
  unfold M_tree_Tree_Right_L0 at hm
  refine aw_sr 1 (at_L 1 [(26, .bool (decide (x1 < (p0.Nodes.length : Int))))] H fun fr H => aw_sq (aw_if 26 H hm (fun hb hm H => ?_) fun hb hm H => ?_))
  ·refine aw_kn id (aw_sq (aw_block (id := 1) (by kernel_rfl) ?_))
   refine aw_sr 6 ?_
   obtain ⟨x3, hx, hm⟩ := bind_some hm
   refine at_g1 1 [(27, Ai x1)] 28 (.vptr (e_S_tree_Node x3)) h2 H (fun fr => .of (s_ixV (e := e_S_tree_Node) (x := x3) enc_S_tree_Node (by decide) (by kernel_rfl) hx)) fun fr t H => ?_
   refine at_l1 29 (.agg (e_S_tree_Node x3)) h2 H (fun fr => .of (s_lv (by kernel_rfl))) fun fr t H => ?_
   obtain ⟨h3, e2, A⟩ := A.pu (.cells none 2 [Ai 0, Ai 0, Ai 0, Ai 0, Ai 0, Ai 0, Au 0, Au 0, Au 0, Au 0])
   refine at_ln 4 (.ptr (some (h2.size, 0))) e2 H fun fr t H => ?_
   obtain ⟨h4, hx, A⟩ := A.s0 0 (e_S_tree_Node x3) [_, _, _, _, _, _, _, _, _, _]
   refine at_gS 1 [(3, Ai x1)] hx H fun fr t H => ?_
   refine at_ns 4 id (at_l1 30 _ _ H (fun fr => .of (s_ldA (by kernel_rfl) (A.ldA 0 rfl (o := 0) (n := 10) ⟨Nat.le_of_ble_eq_true rfl, rfl⟩))) fun fr t H => ?_)
   obtain ⟨x4, hx, hm⟩ := bind_some hm
   obtain ⟨v1, h5, hr, rfl, A1⟩ := ok_tree_may (av := [.agg (e_S_tree_Node x3), Ai x1]) hx (A.cut 0)
   replace A := A.g00 A1
   refine at_gc1 1 [] 32 hr H fun fr t H => ?_
   refine at_L 1 [(33, .bool (!x4))] H fun fr H => aw_if 33 H hm (fun hb hm H => ?_) fun hb hm H => ?_
   ·refine aw_sr 1 (at_L 1 [(2, .bool false)] H fun fr H => aw_rt ?_)
    replace A := A.k1 1
    exact nr hm fun e => Or.inr (.inl ⟨_, rfl, e, H.ls, A⟩)
   refine aw_kr 2 id (at_se 2 [(23, vs e_S_tree_Node p0.Nodes), (24, Ai (p0.Nodes.length : Int)), (25, Ai (IntKind.i64.wrap (x1 + 1)))] H fun fr H => at_nil ?_)
   replace A := A.k1 1
   exact nx hm ⟨_, rfl, H.ls, A⟩
  refine aw_exit (i := 0) (by kernel_rfl) ?_
  exact nr hm fun e => .inl ⟨rfl, e, H.ls, A⟩
 clear ho
 clear A
 intro e fr h6 hQ
 rcases hQ with ⟨rfl, rfl, H, A⟩ | ⟨x2, rfl, rfl, H, A⟩ | hF
 ·show AW _ _ _ _ _ _ _
  refine aw_sr 1 (at_L 1 [(2, .bool true)] H fun fr H => aw_rt ?_)
  obtain rfl := injA hm
  refine ⟨.inl rfl, .bool true, rH H, ?_⟩
  replace A := A.d0
  exact ⟨rfl, A⟩
 ·obtain rfl := injA hm
  refine ⟨.inl rfl, .bool x2, rH H, ?_⟩
  replace A := A.d0
  exact ⟨rfl, A⟩
 exact hF.elim
def M_tree_Tree_used_L0 (p0 : S_tree_Tree) (s : (List Bool) × Int) : Option (((List Bool) × Int) ⊕ (((List Bool)))) :=
 match s with
 | (x2, x3) => iteB (decide (x3 ≥ 0)) (((ixV x2 x3).bind fun x6 => iteB (!x6) (some x2) ((ixV p0.Nodes x3).bind fun x7 => (iteB (x7.Kind == 2) (some true) (some (x7.Kind == 3)) : Option ((Bool))).bind fun x8 => iteB x8 ((ixV x2 x7.A).bind fun x9 => (ixV (x2.set x7.A.toNat true) x7.B).bind fun x10 => some ((x2.set x7.A.toNat true).set x7.B.toNat true)) ((iteB (x7.Kind == 4) (some true) (some (x7.Kind == 5)) : Option ((Bool))).bind fun x11 => iteB x11 ((ixV x2 x7.A).bind fun x12 => some (x2.set x7.A.toNat true)) (some x2))) : Option (((List Bool)))).bind fun x5 => some (.inl (x5, IntKind.i64.wrap (x3 - 1)))) (some (.inr x2))
def M_tree_Tree_used (p0 : S_tree_Tree) : Option ((List Bool)) :=
 need (mkN 1 (p0.Nodes.length : Int)) <| (ixV (List.replicate (p0.Nodes.length : Int).toNat false) p0.Root).bind fun x1 => (loop (M_tree_Tree_used_L0 p0) (((List.replicate (p0.Nodes.length : Int).toNat false).set p0.Root.toNat true), p0.Root)).bind fun x4 => some x4
theorem ok_tree_Tree_used {p0 q0} (hm : M_tree_Tree_used p0 = some q0) (A : HH g h [] F) (hc : canL (cfg.still 17) av = [.agg (e_S_tree_Tree p0)] := by kernel_rfl) : ∃ v h', Runs cfg g h 17 av v h' ∧ ∃ (rq0 : Option Nat), v = rowV rq0 q0.length ∧ HH g h' [.lst rq0 4 (lst eB q0)] F := by
 refine rq1 51 [.tmp 2] hc ?_
 clear hc
 unfold M_tree_Tree_used at hm
 refine bg 51 [(0, .agg (e_S_tree_Tree p0))] fun fr H => ?_
 refine aw_sr 2 ?_
 obtain ⟨h1, e1, A⟩ := A.pu (.cells none 2 (e_S_tree_Tree p0))
 refine at_ln 1 (.ptr (some (h.size, 0))) e1 H fun fr t H => ?_
 refine at_S 1 [] 5 H fun fr H => at_gl 1 [] 7 0 0 A H fun fr t H => ?_
 obtain ⟨hb, hm⟩ := need_some hm
 obtain ⟨h2, e2, A⟩ := A.pL 4 (lst eB (List.replicate (p0.Nodes.length : Int).toNat false))
 refine at_g1 1 [] 9 (rowV (some h1.size) (List.replicate (p0.Nodes.length : Int).toNat false).length) h2 H (fun fr => .of (s_mkO (e := eB) encB (x := false) (by kernel_rfl) hb (congrArg some e2.symm))) fun fr t H => ?_
 refine at_S 1 [(3, rowV (some h1.size) ((List.replicate (p0.Nodes.length : Int).toNat false).length))] 5 H fun fr H => at_gl 2 [(10, rowV (some h1.size) ((List.replicate (p0.Nodes.length : Int).toNat false).length))] 12 1 1 A H fun fr t H => ?_
 obtain ⟨x1, hx, hm⟩ := bind_some hm
 obtain ⟨i1, er1, _, hx, hq1⟩ := HH.ixO encB (by decide) A 0 (xs := (List.replicate (p0.Nodes.length : Int).toNat false)) rfl hx
 refine at_l1 13 (.ptr (some (i1, p0.Root.toNat * 1))) h2 H (fun fr => .of (s_ixL (s := rowS (some h1.size) ((List.replicate (p0.Nodes.length : Int).toNat false).length)) (by kernel_rfl) hx)) fun fr t H => ?_
 obtain ⟨h3, hx, A1⟩ := HH.stO encB A 0 rfl er1 hq1 (y := true) (o := 0) (new := [.bool true]) rfl rfl (Nat.le_of_ble_eq_true rfl)
 have hl1 : ((List.replicate (p0.Nodes.length : Int).toNat false).set p0.Root.toNat true).length = (List.replicate (p0.Nodes.length : Int).toNat false).length := List.length_set
 have el : rowV (some h1.size) (List.replicate (p0.Nodes.length : Int).toNat false).length = rowV (some h1.size) ((List.replicate (p0.Nodes.length : Int).toNat false).set p0.Root.toNat true).length := congrArg _ List.length_set.symm
 try rw [el] at H
 try rw [el] at A1
 replace A : HH g h3 [.lst (some h1.size) 4 (lst eB ((List.replicate (p0.Nodes.length : Int).toNat false).set p0.Root.toNat true)), .obj h.size (.cells none 2 (e_S_tree_Tree p0))] F := A1
 refine at_ls hx H fun fr t H => ?_
 refine at_nl id (aw_sq (aw_sr 3 (at_gl 1 [] 15 1 1 A H fun fr t H => ?_)))
 refine at_L 1 [(4, Ai p0.Root)] H fun fr H => aw_block (id := 0) (by kernel_rfl) ?_
 obtain ⟨o1, ho, hm⟩ := bind_some hm
 refine aw_mono (Q' := fun e fr' h' => (∃ x4, e = .exit 0 ∧ x4 = o1 ∧ ∃ (hl3 : x4.length = (List.replicate (p0.Nodes.length : Int).toNat false).length), Has fr' 51 [(3, rowV (some h1.size) x4.length)] ∧ HH g h' [.lst (some h1.size) 4 (lst eB x4), .obj h.size (.cells none 2 (e_S_tree_Tree p0))] F) ∨ False) ?_ ?_
 ·refine aw_loop (by kernel_rfl) (fun (s : (List Bool) × Int) fr' h' => ∃ x2 x3, (x2, x3) = s ∧ ∃ (hl2 : x2.length = (List.replicate (p0.Nodes.length : Int).toNat false).length), Has fr' 51 [(1, .ptr (some (h.size, 0))), (3, rowV (some h1.size) x2.length), (4, Ai x3)] ∧ HH g h' [.lst (some h1.size) 4 (lst eB x2), .obj h.size (.cells none 2 (e_S_tree_Tree p0))] F) ho ⟨_, _, rfl, hl1, H.ls, A⟩ ?_
  clear ho hm H A
  intro s q fr h4 hI hm
  obtain ⟨x2, x3, rfl, hl2, H, A⟩ := hI
  unfold M_tree_Tree_used_L0 at hm
  refine aw_sq (aw_sr 2 (at_L 2 [(17, .bool (decide (x3 ≥ 0)))] H fun fr H => aw_if 17 H hm (fun hb hm H => ?_) fun hb hm H => ?_))
  ·refine aw_kn id (aw_sq ?_)
   obtain ⟨o2, ho, hm⟩ := bind_some hm
   refine aw_mono (Q' := fun e fr' h' => (∃ x5, e = .normal ∧ x5 = o2 ∧ ∃ (hl4 : x5.length = (List.replicate (p0.Nodes.length : Int).toNat false).length), Has fr' 51 [(1, .ptr (some (h.size, 0))), (3, rowV (some h1.size) x5.length), (4, Ai x3)] ∧ HH g h' [.lst (some h1.size) 4 (lst eB x5), .obj h.size (.cells none 2 (e_S_tree_Tree p0))] F) ∨ False) ?_ ?_
   ·replace hm := ho
    clear ho
    refine aw_block (id := 1) (by kernel_rfl) ?_
    refine aw_sq (aw_sr 5 ?_)
    obtain ⟨x6, hx, hm⟩ := bind_some hm
    obtain ⟨i2, er2, _, hx, hq2⟩ := HH.ixO encB (by decide) A 0 (xs := x2) rfl hx
    refine at_g1 2 [] 22 (.ptr (some (i2, x3.toNat * 1))) h4 H (fun fr => .of (s_ixL (s := rowS (some h1.size) x2.length) (by kernel_rfl) hx)) fun fr t H => ?_
    refine at_l1 23 _ _ H (fun fr => .of (s_ld (by kernel_rfl) (row_ld1 encB (HH.row A 0 rfl er2) hq2 (o := 0) rfl))) fun fr t H => ?_
    refine at_L 1 [(24, .bool (!x6))] H fun fr H => aw_if 24 H hm (fun hb hm H => ?_) fun hb hm H => ?_
    ·refine aw_exit (i := 1) (by kernel_rfl) ?_
     exact .inl ⟨_, rfl, injA hm, hl2, H.ls, A⟩
    refine aw_ks 7 id (at_gl 1 [] 26 1 0 A H fun fr t H => ?_)
    obtain ⟨x7, hx, hm⟩ := bind_some hm
    refine at_g1 1 [] 28 (.vptr (e_S_tree_Node x7)) h4 H (fun fr => .of (s_ixV (e := e_S_tree_Node) (x := x7) enc_S_tree_Node (by decide) (by kernel_rfl) hx)) fun fr t H => ?_
    refine at_l1 29 (.agg (e_S_tree_Node x7)) h4 H (fun fr => .of (s_lv (by kernel_rfl))) fun fr t H => ?_
    obtain ⟨h5, e3, A⟩ := A.pu (.cells none 2 [Ai 0, Ai 0, Ai 0, Ai 0, Ai 0, Ai 0, Au 0, Au 0, Au 0, Au 0])
    refine at_ln 5 (.ptr (some (h4.size, 0))) e3 H fun fr t H => ?_
    obtain ⟨h6, hx, A⟩ := A.s0 0 (e_S_tree_Node x7) [_, _, _, _, _, _, _, _, _, _]
    refine at_lS hx H fun fr t H => ?_
    refine at_ns 2 id (at_gl 1 [] 31 0 0 A H fun fr t H => ?_)
    refine at_nl id (aw_block (id := 2) (by kernel_rfl) ?_)
    refine aw_sq ?_
    obtain ⟨o3, ho, hm⟩ := bind_some hm
    refine aw_mono (Q' := fun e fr' h' => (∃ x8, e = .normal ∧ x8 = o3 ∧ Has fr' 51 [(1, .ptr (some (h.size, 0))), (3, rowV (some h1.size) x2.length), (4, Ai x3), (5, .ptr (some (h4.size, 0))), (31, Ai x7.Kind), (32, .bool x8)] ∧ HH g h' [.obj h4.size (.cells none 2 (e_S_tree_Node x7)), .lst (some h1.size) 4 (lst eB x2), .obj h.size (.cells none 2 (e_S_tree_Tree p0))] F) ∨ False) ?_ ?_
    ·replace hm := ho
     clear ho
     refine aw_sr 2 (at_L 2 [(32, .bool (x7.Kind == 2))] H fun fr H => aw_if 32 H hm (fun hb hm H => ?_) fun hb hm H => ?_)
     ·exact aw_sk (.inl ⟨_, rfl, injA hm, H.ls, A⟩)
     refine aw_rg 2 (at_se 2 [(1, .ptr (some (h.size, 0))), (3, rowV (some h1.size) x2.length), (4, Ai x3), (5, .ptr (some (h4.size, 0))), (31, Ai x7.Kind), (32, .bool (x7.Kind == 3))] H fun fr H => at_nil ?_)
     exact .inl ⟨_, rfl, injA hm, H.ls, A⟩
    clear ho
    clear A
    intro e fr h7 hQ
    rcases hQ with ⟨x8, rfl, rfl, H, A⟩ | hF
    ·show AW _ _ _ _ _ _ _
     refine aw_if 32 H hm (fun hb hm H => ?_) fun hb hm H => ?_
     ·refine aw_dw 11 10 [(0, []), (1, []), (2, []), (3, []), (4, []), (5, []), (6, []), (7, [5]), (8, []), (9, [])] ?_
      refine at_sl 2 [(35, rowV (some h1.size) x2.length), (36, .ptr (some (h4.size, 1)))] H fun fr H => at_t1 37 (Ai x7.A) h7 [(2, h4.size)] (g.prot) H (fun fr => .of (s_ld (by kernel_rfl) (A.l1 0 1))) (fun fr H => ?_)
      refine at_sl 2 [(38, rowV (some h1.size) x2.length), (39, .ptr (some (h4.size, 2)))] H fun fr H => at_t1 40 (Ai x7.B) h7 [(5, h4.size), (2, h4.size)] (g.prot) H (fun fr => .of (s_ld (by kernel_rfl) (A.l1 0 2))) (fun fr H => ?_)
      obtain ⟨x9, hx, hm⟩ := bind_some hm
      obtain ⟨i3, er3, _, hx, hq3⟩ := HH.ixO encB (by decide) A 1 (xs := x2) rfl hx
      refine at_t1 41 (.ptr (some (i3, x7.A.toNat * 1))) h7 [(5, h4.size), (2, h4.size)] (g.prot) H (fun fr => .of (s_ixL (s := rowS (some h1.size) x2.length) (by kernel_rfl) hx)) (fun fr H => ?_)
      replace A := A.k3 1 0 2
      have A1 := A.prot2 1 (pr := [h4.size]) (.cons 0 rfl (by simp [Ck.ids]) .nil)
      obtain ⟨h8, hx, A1⟩ := HH.stO encB A1 0 rfl er3 hq3 (y := true) (o := 0) (new := [.bool true]) rfl rfl (Nat.le_of_ble_eq_true rfl)
      have hl5 : (x2.set x7.A.toNat true).length = (List.replicate (p0.Nodes.length : Int).toNat false).length := List.length_set.trans hl2
      have el : rowV (some h1.size) x2.length = rowV (some h1.size) (x2.set x7.A.toNat true).length := congrArg _ List.length_set.symm
      try rw [el] at H
      try rw [el] at A1
      replace A := A.p11 A1
      refine at_t0 (.tuple []) h8 [(5, h4.size), (2, h4.size)] (h4.size :: g.prot) H (fun fr => .of (s_st (by kernel_rfl) rfl hx)) (fun fr H => ?_)
      obtain ⟨x10, hx, hm⟩ := bind_some hm
      obtain ⟨i4, er4, _, hx, hq4⟩ := HH.ixO encB (by decide) A 0 (xs := (x2.set x7.A.toNat true)) rfl hx
      refine at_t1 42 (.ptr (some (i4, x7.B.toNat * 1))) h8 [(5, h4.size), (2, h4.size)] (g.prot) H (fun fr => .of (s_ixL (s := rowS (some h1.size) ((x2.set x7.A.toNat true).length)) (by kernel_rfl) hx)) (fun fr H => ?_)
      obtain ⟨h9, hx, A1⟩ := HH.stO encB A 0 rfl er4 hq4 (y := true) (o := 0) (new := [.bool true]) rfl rfl (Nat.le_of_ble_eq_true rfl)
      have hl6 : ((x2.set x7.A.toNat true).set x7.B.toNat true).length = (List.replicate (p0.Nodes.length : Int).toNat false).length := List.length_set.trans hl5
      have el : rowV (some h1.size) (x2.set x7.A.toNat true).length = rowV (some h1.size) ((x2.set x7.A.toNat true).set x7.B.toNat true).length := congrArg _ List.length_set.symm
      try rw [el] at H
      try rw [el] at A1
      replace A : HH g h9 [.lst (some h1.size) 4 (lst eB ((x2.set x7.A.toNat true).set x7.B.toNat true)), _, _] F := A1
      refine at_t0 (.tuple []) h9 [(5, h4.size), (2, h4.size)] (g.prot) H (fun fr => .of (s_st (by kernel_rfl) rfl hx)) (fun fr H => ?_)
      refine at_nil ?_
      replace A := A.k2 0 2
      exact .inl ⟨_, rfl, injA hm, hl6, H.ls, A⟩
     refine aw_sq ?_
     obtain ⟨o4, ho, hm⟩ := bind_some hm
     refine aw_mono (Q' := fun e fr' h' => (∃ x11, e = .normal ∧ x11 = o4 ∧ Has fr' 51 [(1, .ptr (some (h.size, 0))), (3, rowV (some h1.size) x2.length), (4, Ai x3), (5, .ptr (some (h4.size, 0))), (43, .bool x11)] ∧ HH g h' [.obj h4.size (.cells none 2 (e_S_tree_Node x7)), .lst (some h1.size) 4 (lst eB x2), .obj h.size (.cells none 2 (e_S_tree_Tree p0))] F) ∨ False) ?_ ?_
     ·replace hm := ho
      clear ho
      refine aw_sr 2 (at_L 2 [(43, .bool (x7.Kind == 4))] H fun fr H => aw_if 43 H hm (fun hb hm H => ?_) fun hb hm H => ?_)
      ·exact aw_sk (.inl ⟨_, rfl, injA hm, H.ls, A⟩)
      refine aw_rg 2 (at_se 2 [(1, .ptr (some (h.size, 0))), (3, rowV (some h1.size) x2.length), (4, Ai x3), (5, .ptr (some (h4.size, 0))), (43, .bool (x7.Kind == 5))] H fun fr H => at_nil ?_)
      exact .inl ⟨_, rfl, injA hm, H.ls, A⟩
     clear ho
     clear A
     intro e fr h10 hQ
     rcases hQ with ⟨x11, rfl, rfl, H, A⟩ | hF
     ·show AW _ _ _ _ _ _ _
      refine aw_if 43 H hm (fun hb hm H => ?_) fun hb hm H => ?_
      ·refine aw_rg 5 (at_gl 2 [(46, rowV (some h1.size) x2.length)] 48 0 1 A H fun fr t H => ?_)
       obtain ⟨x12, hx, hm⟩ := bind_some hm
       obtain ⟨i5, er5, _, hx, hq5⟩ := HH.ixO encB (by decide) A 1 (xs := x2) rfl hx
       refine at_l1 49 (.ptr (some (i5, x7.A.toNat * 1))) h10 H (fun fr => .of (s_ixL (s := rowS (some h1.size) x2.length) (by kernel_rfl) hx)) fun fr t H => ?_
       obtain ⟨h11, hx, A1⟩ := HH.stO encB A 1 rfl er5 hq5 (y := true) (o := 0) (new := [.bool true]) rfl rfl (Nat.le_of_ble_eq_true rfl)
       have hl7 : (x2.set x7.A.toNat true).length = (List.replicate (p0.Nodes.length : Int).toNat false).length := List.length_set.trans hl2
       have el : rowV (some h1.size) x2.length = rowV (some h1.size) (x2.set x7.A.toNat true).length := congrArg _ List.length_set.symm
       try rw [el] at H
       try rw [el] at A1
       replace A : HH g h11 [_, .lst (some h1.size) 4 (lst eB (x2.set x7.A.toNat true)), _] F := A1
       refine at_ls hx H fun fr t H => ?_
       refine at_nil ?_
       replace A := A.k2 1 2
       exact .inl ⟨_, rfl, injA hm, hl7, H.ls, A⟩
      refine aw_sk ?_
      replace A := A.k2 1 2
      exact .inl ⟨_, rfl, injA hm, hl2, H.ls, A⟩
     exact hF.elim
    exact hF.elim
   clear ho
   clear A
   intro e fr h12 hQ
   rcases hQ with ⟨x5, rfl, rfl, hl4, H, A⟩ | hF
   ·show AW _ _ _ _ _ _ _
    refine aw_rg 3 (at_se 3 [(1, .ptr (some (h.size, 0))), (3, rowV (some h1.size) x5.length), (4, Ai (IntKind.i64.wrap (x3 - 1)))] H fun fr H => at_nil ?_)
    exact nx hm ⟨_, _, rfl, hl4, H.ls, A⟩
   exact hF.elim
  refine aw_exit (i := 0) (by kernel_rfl) ?_
  exact nr hm fun e => .inl ⟨_, rfl, e, hl2, H.ls, A⟩
 clear ho
 clear A
 intro e fr h13 hQ
 rcases hQ with ⟨x4, rfl, rfl, hl3, H, A⟩ | hF
 ·show AW _ _ _ _ _ _ _
  refine aw_sr 2 (at_L 2 [(2, rowV (some h1.size) x4.length)] H fun fr H => aw_rt ?_)
  obtain rfl := injA hm
  refine ⟨.inl rfl, rowV (some h1.size) x4.length, rH H, ?_⟩
  replace A := A.d1
  exact ⟨some h1.size, rfl, A⟩
 exact hF.elim
def M_class_Set_Has (p0 : A4_uint64) (p1 : Int) : Option (Bool) :=
 (ixV ([p0.w0, p0.w1, p0.w2, p0.w3] : List Int) (bShr .u8 p1 (6 : Int))).bind fun x1 => need (decide (0 ≤ (bAnd .u8 p1 (63 : Int)))) <| some ((bAnd .u64 (bShr .u64 x1 (bAnd .u8 p1 (63 : Int))) (1 : Int)) == 1)
theorem ok_class_Set_Has {p0 p1 q0} (hm : M_class_Set_Has p0 p1 = some q0) (A : HH g h [] F) (hc : canL (cfg.still 38) av = [.agg (e_A4_uint64 p0), Ab p1] := by kernel_rfl) : ∃ v h', Runs cfg g h 38 av v h' ∧ v = .bool q0 ∧ HH g h' [] F := by
 refine rq1 14 [.tmp 4] hc ?_
 clear hc
 unfold M_class_Set_Has at hm
 refine bg 14 [(0, .agg (e_A4_uint64 p0)), (1, Ab p1)] fun fr H => ?_
 refine aw_sr 2 ?_
 obtain ⟨h1, e1, A⟩ := A.pu (.cells none 2 (e_A4_uint64 p0))
 refine at_ln 2 (.ptr (some (h.size, 0))) e1 H fun fr t H => ?_
 refine at_S 1 [] 10 H fun fr H => ?_
 obtain ⟨x1, hq1, hm⟩ := bind_some hm
 refine at_g1 2 [] 7 (.ptr (some (h.size, 0 + (bShr .u8 p1 (6 : Int)).toNat * 1))) h1 H (fun fr => .of (s_ixA (by kernel_rfl) (ixA_of hq1 (h.size, 0) 1 rfl))) fun fr t H => ?_
 refine at_l1 8 _ _ H (fun fr => .of (s_ld (by kernel_rfl) (HH.ldW A 0 rfl 0 (fun w : Int => Au w) [p0.w0, p0.w1, p0.w2, p0.w3] rfl hq1))) fun fr t H => ?_
 refine at_sl 2 [(10, Ab (bAnd .u8 p1 (63 : Int)))] H fun fr H => ?_
 obtain ⟨hb, hm⟩ := need_some hm
 refine at_l1 11 (Au (bShr .u64 x1 (bAnd .u8 p1 (63 : Int)))) h1 H (fun fr => .of (s_shr (by kernel_rfl) hb)) fun fr t H => ?_
 refine at_L 3 [(4, .bool ((bAnd .u64 (bShr .u64 x1 (bAnd .u8 p1 (63 : Int))) (1 : Int)) == 1))] H fun fr H => aw_rt ?_
 obtain rfl := injA hm
 refine ⟨.inl rfl, .bool ((bAnd .u64 (bShr .u64 x1 (bAnd .u8 p1 (63 : Int))) (1 : Int)) == 1), rH H, ?_⟩
 replace A := A.d0
 exact ⟨rfl, A⟩
def M_class_Set_Bytes_L0 (p0 : A4_uint64) (s : (List UInt8) × Int) : Option (((List UInt8) × Int) ⊕ (((List UInt8)))) :=
 match s with
 | (x1, x2) => iteB (decide (x2 < 256)) (((M_class_Set_Has p0 (IntKind.u8.wrap x2)).bind fun x5 => iteB x5 ((toY (IntKind.u8.wrap x2)).bind fun x6 => need (okN 1 (x1.length + ([x6] : List UInt8).length)) <| some (x1 ++ ([x6] : List UInt8))) (some x1) : Option (((List UInt8)))).bind fun x4 => some (.inl (x4, IntKind.i64.wrap (x2 + 1)))) (some (.inr x1))
def M_class_Set_Bytes (p0 : A4_uint64) : Option ((List UInt8)) :=
 (loop (M_class_Set_Bytes_L0 p0) (([] : List UInt8), (0 : Int))).bind fun x3 => some x3
theorem ok_class_Set_Bytes {p0 q0} (hm : M_class_Set_Bytes p0 = some q0) (A : HH g h [] F) (hc : canL (cfg.still 34) av = [.agg (e_A4_uint64 p0)] := by kernel_rfl) : ∃ v h', Runs cfg g h 34 av v h' ∧ v = .str q0 ∧ HH g h' [] F := by
 refine rq1 20 [.tmp 2] hc ?_
 clear hc
 unfold M_class_Set_Bytes at hm
 refine bg 20 [(0, .agg (e_A4_uint64 p0))] fun fr H => ?_
 refine aw_sr 2 ?_
 obtain ⟨h1, e1, A⟩ := A.pu (.cells none 2 (e_A4_uint64 p0))
 refine at_ln 1 (.ptr (some (h.size, 0))) e1 H fun fr t H => ?_
 refine at_S 1 [] 1 H fun fr H => at_L 1 [(3, .slice none 0)] H fun fr H => aw_sq (aw_sr 1 (at_L 1 [(5, Ai 0)] H fun fr H => aw_block (id := 0) (by kernel_rfl) ?_))
 replace A : HH g h1 [.lst none 5 (lst eY ([] : List UInt8)), .obj h.size (.cells none 2 (e_A4_uint64 p0))] F := A.nilL 5
 obtain ⟨o1, ho, hm⟩ := bind_some hm
 refine aw_mono (Q' := fun e fr' h' => (∃ x3, e = .exit 0 ∧ x3 = o1 ∧ ∃ r2, Has fr' 20 [(3, rowV r2 x3.length)] ∧ HH g h' [.lst r2 5 (lst eY x3), .obj h.size (.cells none 2 (e_A4_uint64 p0))] F) ∨ False) ?_ ?_
 ·refine aw_loop (by kernel_rfl) (fun (s : (List UInt8) × Int) fr' h' => ∃ x1 x2, (x1, x2) = s ∧ ∃ r1, Has fr' 20 [(1, .ptr (some (h.size, 0))), (3, rowV r1 x1.length), (5, Ai x2)] ∧ HH g h' [.lst r1 5 (lst eY x1), .obj h.size (.cells none 2 (e_A4_uint64 p0))] F) ho ⟨_, _, rfl, none, H.ls, A⟩ ?_
  clear ho hm H A
  intro s q fr h2 hI hm
  obtain ⟨x1, x2, rfl, r1, H, A⟩ := hI
  unfold M_class_Set_Bytes_L0 at hm
  refine aw_sr 1 (at_L 1 [(6, .bool (decide (x2 < 256)))] H fun fr H => aw_sq (aw_if 6 H hm (fun hb hm H => ?_) fun hb hm H => ?_))
  ·refine aw_kn id (aw_sq ?_)
   obtain ⟨o2, ho, hm⟩ := bind_some hm
   refine aw_mono (Q' := fun e fr' h' => (∃ x4, e = .normal ∧ x4 = o2 ∧ ∃ r3, Has fr' 20 [(1, .ptr (some (h.size, 0))), (3, rowV r3 x4.length), (5, Ai x2)] ∧ HH g h' [.lst r3 5 (lst eY x4), .obj h.size (.cells none 2 (e_A4_uint64 p0))] F) ∨ False) ?_ ?_
   ·replace hm := ho
    clear ho
    refine aw_block (id := 1) (by kernel_rfl) ?_
    refine aw_sr 2 (at_S 2 [(4, Ai x2)] 4 H fun fr H => at_l1 8 _ _ H (fun fr => .of (s_ldA (by kernel_rfl) (A.ldA 1 rfl (o := 0) (n := 4) ⟨Nat.le_of_ble_eq_true rfl, rfl⟩))) fun fr t H => ?_)
    obtain ⟨x5, hx, hm⟩ := bind_some hm
    obtain ⟨v1, h3, hr, rfl, A1⟩ := ok_class_Set_Has (av := [.agg (e_A4_uint64 p0), Ab (IntKind.u8.wrap x2)]) hx (A.cut 0)
    replace A := A.g00 A1
    refine at_gc1 2 [] 11 hr H fun fr t H => ?_
    refine at_nl id (aw_if 11 H hm (fun hb hm H => ?_) fun hb hm H => ?_)
    ·refine aw_rg 6 (at_sl 3 [(12, rowV r1 x1.length), (14, Ab (IntKind.u8.wrap x2))] H fun fr H => ?_)
     obtain ⟨x6, hx, hm⟩ := bind_some hm
     have hx := toY_eq hx
     rw [hx] at H
     obtain ⟨h4, e2, A⟩ := A.pL 5 [Ab (x6.toNat : Int)]
     refine at_ln 15 (rowV (some h3.size) (([x6] : List UInt8).length)) e2 H fun fr t H => ?_
     obtain ⟨hb, hm⟩ := need_some hm
     obtain ⟨r4, h5, hx, A1⟩ := HH.appO encY (by decide) A 1 (xs := x1) (ys := ([x6] : List UInt8)) rfl (row_first A 0 rfl (n := ([x6] : List UInt8).length) (z := 1) rfl (by decide)) rfl rfl hb
     replace A : HH g h5 [.lst (some h3.size) 5 ([Ab (x6.toNat : Int)]), .lst r4 5 (lst eY (x1 ++ ([x6] : List UInt8))), _] F := A1
     replace A := A.k2 1 2
     refine at_l1 16 _ _ H (fun fr => .of (s_app (s := rowS r1 x1.length) (by kernel_rfl) hx)) fun fr t H => ?_
     refine at_se 1 [(1, .ptr (some (h.size, 0))), (3, rowV r4 ((x1 ++ ([x6] : List UInt8)).length)), (5, Ai x2)] H fun fr H => at_nil ?_
     exact .inl ⟨_, rfl, injA hm, _, H.ls, A⟩
    exact aw_sk (.inl ⟨_, rfl, injA hm, _, H.ls, A⟩)
   clear ho
   clear A
   intro e fr h6 hQ
   rcases hQ with ⟨x4, rfl, rfl, r3, H, A⟩ | hF
   ·show AW _ _ _ _ _ _ _
    refine aw_rg 2 (at_se 2 [(1, .ptr (some (h.size, 0))), (3, rowV r3 x4.length), (5, Ai (IntKind.i64.wrap (x2 + 1)))] H fun fr H => at_nil ?_)
    exact nx hm ⟨_, _, rfl, _, H.ls, A⟩
   exact hF.elim
  refine aw_exit (i := 0) (by kernel_rfl) ?_
  exact nr hm fun e => .inl ⟨_, rfl, e, _, H.ls, A⟩
 clear ho
 clear A
 intro e fr h7 hQ
 rcases hQ with ⟨x3, rfl, rfl, r2, H, A⟩ | hF
 ·show AW _ _ _ _ _ _ _
  refine aw_sr 3 (at_sl 1 [(18, rowV r2 x3.length)] H fun fr H => at_l1 19 (.str x3) h7 H (fun fr => .of (s_byO (xs := x3) A 0 rfl (by kernel_rfl))) fun fr t H => ?_)
  refine at_L 1 [(2, .str x3)] H fun fr H => aw_rt ?_
  obtain rfl := injA hm
  refine ⟨.inl rfl, .str x3, rH H, ?_⟩
  replace A := A.d0
  exact ⟨rfl, A⟩
 exact hF.elim
def M_strconv_small (p0 : Int) : Option ((List UInt8)) :=
 iteB (decide (p0 < 10)) ((subS ([48, 49, 50, 51, 52, 53, 54, 55, 56, 57, 97, 98, 99, 100, 101, 102, 103, 104, 105, 106, 107, 108, 109, 110, 111, 112, 113, 114, 115, 116, 117, 118, 119, 120, 121, 122] : List UInt8) (some p0) (some (IntKind.i64.wrap (p0 + 1)))).bind fun x1 => some x1) ((subS ([48, 48, 48, 49, 48, 50, 48, 51, 48, 52, 48, 53, 48, 54, 48, 55, 48, 56, 48, 57, 49, 48, 49, 49, 49, 50, 49, 51, 49, 52, 49, 53, 49, 54, 49, 55, 49, 56, 49, 57, 50, 48, 50, 49, 50, 50, 50, 51, 50, 52, 50, 53, 50, 54, 50, 55, 50, 56, 50, 57, 51, 48, 51, 49, 51, 50, 51, 51, 51, 52, 51, 53, 51, 54, 51, 55, 51, 56, 51, 57, 52, 48, 52, 49, 52, 50, 52, 51, 52, 52, 52, 53, 52, 54, 52, 55, 52, 56, 52, 57, 53, 48, 53, 49, 53, 50, 53, 51, 53, 52, 53, 53, 53, 54, 53, 55, 53, 56, 53, 57, 54, 48, 54, 49, 54, 50, 54, 51, 54, 52, 54, 53, 54, 54, 54, 55, 54, 56, 54, 57, 55, 48, 55, 49, 55, 50, 55, 51, 55, 52, 55, 53, 55, 54, 55, 55, 55, 56, 55, 57, 56, 48, 56, 49, 56, 50, 56, 51, 56, 52, 56, 53, 56, 54, 56, 55, 56, 56, 56, 57, 57, 48, 57, 49, 57, 50, 57, 51, 57, 52, 57, 53, 57, 54, 57, 55, 57, 56, 57, 57] : List UInt8) (some (IntKind.i64.wrap (p0 * 2))) (some (IntKind.i64.wrap ((IntKind.i64.wrap (p0 * 2)) + 2)))).bind fun x2 => some x2)
theorem ok_strconv_small {p0 q0} (hm : M_strconv_small p0 = some q0) (A : HH g h [] F) (hc : canL (cfg.still 64) av = [Ai p0] := by kernel_rfl) : ∃ v h', Runs cfg g h 64 av v h' ∧ v = .str q0 ∧ HH g h' [] F := by
 refine rq1 15 [.tmp 2] hc ?_
 clear hc
 unfold M_strconv_small at hm
 refine bg 15 [(0, Ai p0)] fun fr H => ?_
 refine aw_sr 1 (at_L 1 [] H fun fr H => aw_sq (aw_sr 2 (at_L 2 [(4, .bool (decide (p0 < 10)))] H fun fr H => aw_if 4 H hm (fun hb hm H => ?_) fun hb hm H => ?_)))
 ·refine aw_sr 5 ?_
  obtain ⟨x1, hx, hm⟩ := bind_some hm
  refine at_g1 3 [] 8 (.str x1) h H (fun fr => .of (s_subS (k := .i64) (k' := .i64) (lo := (some p0)) (hi := (some (IntKind.i64.wrap (p0 + 1)))) (by kernel_rfl) hx)) fun fr t H => ?_
  refine at_L 1 [(2, .str x1)] H fun fr H => aw_rt ?_
  obtain rfl := injA hm
  exact ⟨.inl rfl, _, rH H, rfl, A⟩
 refine aw_ks 7 id ?_
 obtain ⟨x2, hx, hm⟩ := bind_some hm
 refine at_g1 5 [] 14 (.str x2) h H (fun fr => .of (s_subS (k := .i64) (k' := .i64) (lo := (some (IntKind.i64.wrap (p0 * 2)))) (hi := (some (IntKind.i64.wrap ((IntKind.i64.wrap (p0 * 2)) + 2)))) (by kernel_rfl) hx)) fun fr t H => ?_
 refine at_L 1 [(2, .str x2)] H fun fr H => aw_rt ?_
 obtain rfl := injA hm
 exact ⟨.inl rfl, _, rH H, rfl, A⟩
def M_strconv_FormatInt (p0 : Int) (p1 : Int) : Option ((List UInt8)) :=
 iteB (p1 == 10) (iteB ((decide ((0 : Int) ≤ p0)) && (decide (p0 < 100))) ((M_strconv_small p0).bind fun x1 => some x1) ((iteB (decide (p0 < 0)) (some (IntKind.u64.wrap (0 - (IntKind.u64.wrap p0)))) (some (IntKind.u64.wrap p0)) : Option ((Int))).bind fun x2 => none)) (none)
theorem ok_strconv_FormatInt {p0 p1 q0} (hm : M_strconv_FormatInt p0 p1 = some q0) (A : HH g h [] F) (hc : canL (cfg.still 59) av = [Ai p0, Ai p1] := by kernel_rfl) : ∃ v h', Runs cfg g h 59 av v h' ∧ v = .str q0 ∧ HH g h' [] F := by
 refine rq1 54 [.tmp 4] hc ?_
 clear hc
 unfold M_strconv_FormatInt at hm
 refine bg 54 [(0, Ai p0), (1, Ai p1)] fun fr H => ?_
 refine aw_sr 1 (at_L 1 [] H fun fr H => aw_sq (aw_sr 2 (at_L 2 [(11, .bool (p1 == 10))] H fun fr H => aw_if 11 H hm (fun hb hm H => ?_) fun hb hm H => ?_)))
 ·refine aw_sq (aw_sr 6 (at_sl 3 [(14, .bool (decide ((0 : Int) ≤ p0)))] H fun fr H => at_cl 3 (fun fr' h' => h = h' ∧ Has fr' 54 [(0, Ai p0), (17, .bool ((decide ((0 : Int) ≤ p0)) && (decide (p0 < 100))))]) ?_ ?_))
  ·cases hb : (decide ((0 : Int) ≤ p0) : Bool) with
   | true =>
    replace H := H.kn 14 hb
    exact at_sl 3 [(17, .bool (decide (p0 < 100)))] H fun fr H => at_zb H hb
   | false =>
    replace H := H.kn 14 hb
    exact at_sl 3 [(17, .bool false)] H fun fr H => at_zb H hb
  intro t fr h' hK
  obtain ⟨e, H⟩ := hK
  subst e
  refine at_nl id (aw_if 17 H hm (fun hb hm H => ?_) fun hb hm H => ?_)
  ·refine aw_sr 3 ?_
   obtain ⟨x1, hx, hm⟩ := bind_some hm
   obtain ⟨v1, h1, hr, rfl, A1⟩ := ok_strconv_small (av := [Ai p0]) hx (A.cut 0)
   replace A := A.g00 A1
   refine at_gc1 1 [] 19 hr H fun fr t H => ?_
   refine at_L 1 [(4, .str x1)] H fun fr H => aw_rt ?_
   obtain rfl := injA hm
   exact ⟨.inl rfl, _, rH H, rfl, A⟩
  refine aw_ks 1 id ?_
  obtain ⟨h2, e1, A⟩ := A.pu (.cells none 2 (big 24 (AVal.int .u8) big0 ++ []))
  refine at_ln 5 (.ptr (some (h.size, 0))) e1 H fun fr t H => ?_
  refine at_ns 3 id (at_L 3 [(6, Au (IntKind.u64.wrap p0))] H fun fr H => aw_sq ?_)
  obtain ⟨o1, ho, hm⟩ := bind_some hm
  refine aw_mono (Q' := fun e fr' h' => (∃ x2, e = .normal ∧ x2 = o1 ∧ Has fr' 54 [(0, Ai p0), (5, .ptr (some (h.size, 0))), (6, Au x2)] ∧ HH g h' [.obj h.size (.cells none 2 (big 24 (AVal.int .u8) big0 ++ []))] F) ∨ False) ?_ ?_
  ·replace hm := ho
   clear ho
   refine aw_sr 2 (at_L 2 [(23, .bool (decide (p0 < 0)))] H fun fr H => aw_if 23 H hm (fun hb hm H => ?_) fun hb hm H => ?_)
   ·refine aw_rg 3 (at_se 3 [(0, Ai p0), (5, .ptr (some (h.size, 0))), (6, Au (IntKind.u64.wrap (0 - (IntKind.u64.wrap p0))))] H fun fr H => at_nil ?_)
    exact .inl ⟨_, rfl, injA hm, H.ls, A⟩
   exact aw_sk (.inl ⟨_, rfl, injA hm, H.ls, A⟩)
  clear ho
  clear A
  intro e fr h3 hQ
  rcases hQ with ⟨x2, rfl, rfl, H, A⟩ | hF
  ·show AW _ _ _ _ _ _ _
   refine aw_sr 3 ?_
   cases hm
  exact hF.elim
 refine aw_ks 11 id ?_
 cases hm
def M_strconv_Itoa_2 (p0 : Int) : Option ((List UInt8)) :=
 (M_strconv_FormatInt p0 (10 : Int)).bind fun x1 => some x1
theorem ok_strconv_Itoa_2 {p0 q0} (hm : M_strconv_Itoa_2 p0 = some q0) (A : HH g h [] F) (hc : canL (cfg.still 52) av = [Ai p0] := by kernel_rfl) : ∃ v h', Runs cfg g h 52 av v h' ∧ v = .str q0 ∧ HH g h' [] F := by
 refine rq1 5 [.tmp 2] hc ?_
 clear hc
 unfold M_strconv_Itoa_2 at hm
 refine bg 5 [(0, Ai p0)] fun fr H => ?_
 refine aw_sr 1 (at_S 1 [] 3 H fun fr H => ?_)
 obtain ⟨x1, hx, hm⟩ := bind_some hm
 obtain ⟨v1, h1, hr, rfl, A1⟩ := ok_strconv_FormatInt (av := [Ai p0, Ai 10]) hx (A.cut 0)
 replace A := A.g00 A1
 refine at_gc1 1 [] 4 hr H fun fr t H => ?_
 refine at_L 1 [(2, .str x1)] H fun fr H => aw_rt ?_
 obtain rfl := injA hm
 exact ⟨.inl rfl, _, rH H, rfl, A⟩
def M_strconv_Itoa (p0 : Int) : Option ((List UInt8)) :=
 (M_strconv_Itoa_2 p0).bind fun x1 => some x1
theorem ok_strconv_Itoa {p0 q0} (hm : M_strconv_Itoa p0 = some q0) (A : HH g h [] F) (hc : canL (cfg.still 35) av = [Ai p0] := by kernel_rfl) : ∃ v h', Runs cfg g h 35 av v h' ∧ v = .str q0 ∧ HH g h' [] F := by
 refine rq1 5 [.tmp 2] hc ?_
 clear hc
 unfold M_strconv_Itoa at hm
 refine bg 5 [(0, Ai p0)] fun fr H => ?_
 refine aw_sr 1 (at_S 1 [] 3 H fun fr H => ?_)
 obtain ⟨x1, hx, hm⟩ := bind_some hm
 obtain ⟨v1, h1, hr, rfl, A1⟩ := ok_strconv_Itoa_2 (av := [Ai p0]) hx (A.cut 0)
 replace A := A.g00 A1
 refine at_gc1 1 [] 4 hr H fun fr t H => ?_
 refine at_L 1 [(2, .str x1)] H fun fr H => aw_rt ?_
 obtain rfl := injA hm
 exact ⟨.inl rfl, _, rH H, rfl, A⟩
def M_tree_text_sRO_L0 (x1 : List UInt8) (s : (List UInt8) × Int) : Option (((List UInt8) × Int) ⊕ (((List UInt8)))) :=
 match s with
 | (x2, x3) => iteB (decide (x3 < (x1.length : Int))) ((ixV x1 x3).bind fun x5 => (ixS ([48, 49, 50, 51, 52, 53, 54, 55, 56, 57, 97, 98, 99, 100, 101, 102] : List UInt8) (bShr .u8 (x5.toNat : Int) (4 : Int))).bind fun x6 => (ixS ([48, 49, 50, 51, 52, 53, 54, 55, 56, 57, 97, 98, 99, 100, 101, 102] : List UInt8) (bAnd .u8 (x5.toNat : Int) (15 : Int))).bind fun x7 => (toY x6).bind fun x8 => (toY x7).bind fun x9 => need (okN 1 (x2.length + ([x8, x9] : List UInt8).length)) <| some (.inl ((x2 ++ ([x8, x9] : List UInt8)), IntKind.i64.wrap (x3 + 1)))) (some (.inr x2))
def M_tree_text_sRO (p0 : S_tree_Node) (p1 : List (List UInt8)) : Option ((List UInt8)) :=
 iteB (p0.Kind == 0) (some ([101] : List UInt8)) (iteB (p0.Kind == 1) ((M_class_Set_Bytes p0.Set).bind fun x1 => need (decide (x1.length ≤ 1099511627776)) <| (loop (M_tree_text_sRO_L0 x1) (([(91 : UInt8)] : List UInt8), (0 : Int))).bind fun x4 => need (okN 1 (x4.length + ([(93 : UInt8)] : List UInt8).length)) <| some (x4 ++ ([(93 : UInt8)] : List UInt8))) (iteB (p0.Kind == 2) ((ixV p1 p0.A).bind fun x10 => need (decide (([40] : List UInt8).length + x10.length ≤ 9223372036854775807)) <| need (decide ((([40] : List UInt8) ++ x10).length + ([46] : List UInt8).length ≤ 9223372036854775807)) <| (ixV p1 p0.B).bind fun x11 => need (decide (((([40] : List UInt8) ++ x10) ++ ([46] : List UInt8)).length + x11.length ≤ 9223372036854775807)) <| need (decide ((((([40] : List UInt8) ++ x10) ++ ([46] : List UInt8)) ++ x11).length + ([41] : List UInt8).length ≤ 9223372036854775807)) <| some ((((([40] : List UInt8) ++ x10) ++ ([46] : List UInt8)) ++ x11) ++ ([41] : List UInt8))) (iteB (p0.Kind == 3) ((ixV p1 p0.A).bind fun x12 => need (decide (([40] : List UInt8).length + x12.length ≤ 9223372036854775807)) <| need (decide ((([40] : List UInt8) ++ x12).length + ([124] : List UInt8).length ≤ 9223372036854775807)) <| (ixV p1 p0.B).bind fun x13 => need (decide (((([40] : List UInt8) ++ x12) ++ ([124] : List UInt8)).length + x13.length ≤ 9223372036854775807)) <| need (decide ((((([40] : List UInt8) ++ x12) ++ ([124] : List UInt8)) ++ x13).length + ([41] : List UInt8).length ≤ 9223372036854775807)) <| some ((((([40] : List UInt8) ++ x12) ++ ([124] : List UInt8)) ++ x13) ++ ([41] : List UInt8))) (iteB (p0.Kind == 4) ((iteB (decide (p0.Max ≥ 0)) ((M_strconv_Itoa p0.Max).bind fun x15 => some x15) (some ([] : List UInt8)) : Option (((List UInt8)))).bind fun x14 => (ixV p1 p0.A).bind fun x16 => (M_strconv_Itoa p0.Min).bind fun x17 => need (decide (([123] : List UInt8).length + x17.length ≤ 9223372036854775807)) <| need (decide ((([123] : List UInt8) ++ x17).length + ([44] : List UInt8).length ≤ 9223372036854775807)) <| need (decide (((([123] : List UInt8) ++ x17) ++ ([44] : List UInt8)).length + x14.length ≤ 9223372036854775807)) <| need (decide ((((([123] : List UInt8) ++ x17) ++ ([44] : List UInt8)) ++ x14).length + ([58] : List UInt8).length ≤ 9223372036854775807)) <| need (decide (((((([123] : List UInt8) ++ x17) ++ ([44] : List UInt8)) ++ x14) ++ ([58] : List UInt8)).length + x16.length ≤ 9223372036854775807)) <| need (decide ((((((([123] : List UInt8) ++ x17) ++ ([44] : List UInt8)) ++ x14) ++ ([58] : List UInt8)) ++ x16).length + ([125] : List UInt8).length ≤ 9223372036854775807)) <| some ((((((([123] : List UInt8) ++ x17) ++ ([44] : List UInt8)) ++ x14) ++ ([58] : List UInt8)) ++ x16) ++ ([125] : List UInt8))) (iteB (p0.Kind == 5) ((ixV p1 p0.A).bind fun x18 => (M_strconv_Itoa p0.Group).bind fun x19 => need (decide (([60] : List UInt8).length + x19.length ≤ 9223372036854775807)) <| need (decide ((([60] : List UInt8) ++ x19).length + ([58] : List UInt8).length ≤ 9223372036854775807)) <| need (decide (((([60] : List UInt8) ++ x19) ++ ([58] : List UInt8)).length + x18.length ≤ 9223372036854775807)) <| need (decide ((((([60] : List UInt8) ++ x19) ++ ([58] : List UInt8)) ++ x18).length + ([62] : List UInt8).length ≤ 9223372036854775807)) <| some ((((([60] : List UInt8) ++ x19) ++ ([58] : List UInt8)) ++ x18) ++ ([62] : List UInt8))) (iteB (p0.Kind == 6) (some ([94] : List UInt8)) (some ([36] : List UInt8))))))))
theorem ok_tree_text_sRO {p0 p1 rp1 q0} (hm : M_tree_text_sRO p0 p1 = some q0) (A : HH g h [.lst rp1 9 (lst eS p1)] F) (hc : canL (cfg.still 23) av = [.agg (e_S_tree_Node p0), rowV rp1 p1.length] := by kernel_rfl) : ∃ v h', Runs cfg g h 23 av v h' ∧ v = .str q0 ∧ HH g h' [.lst rp1 9 (lst eS p1)] F := by
 refine rq1 110 [.tmp 4] hc ?_
 clear hc
 unfold M_tree_text_sRO at hm
 refine bg 110 [(0, .agg (e_S_tree_Node p0)), (1, rowV rp1 p1.length)] fun fr H => ?_
 refine aw_sr 2 ?_
 obtain ⟨h1, e1, A⟩ := A.pu (.cells none 2 (e_S_tree_Node p0))
 refine at_ln 2 (.ptr (some (h.size, 0))) e1 H fun fr t H => ?_
 refine at_L 1 [] H fun fr H => aw_sq (aw_sr 2 (at_gl 1 [] 10 0 0 A H fun fr t H => ?_))
 refine at_nl id (aw_block (id := 0) (by kernel_rfl) ?_)
 refine aw_sr 2 (at_L 2 [(11, .bool (p0.Kind == 0))] H fun fr H => aw_if 11 H hm (fun hb hm H => ?_) fun hb hm H => ?_)
 ·refine aw_sr 1 (at_L 1 [(4, .str ([101] : List UInt8))] H fun fr H => aw_rt ?_)
  obtain rfl := injA hm
  refine ⟨.inl rfl, .str ([101] : List UInt8), rH H, ?_⟩
  replace A := A.k1 1
  exact ⟨rfl, A⟩
 refine aw_sr 2 (at_L 2 [(13, .bool (p0.Kind == 1))] H fun fr H => aw_if 13 H hm (fun hb hm H => ?_) fun hb hm H => ?_)
 ·refine aw_sr 2 ?_
  obtain ⟨h2, e2, A⟩ := A.pL 5 [Ab 91]
  refine at_ln 15 (rowV (some h1.size) (([(91 : UInt8)] : List UInt8).length)) e2 H fun fr t H => ?_
  refine at_L 1 [(5, rowV (some h1.size) (([(91 : UInt8)] : List UInt8).length))] H fun fr H => aw_sq (aw_sr 6 (at_g1 1 [] 17 _ _ H (fun fr => .of (s_ldA (by kernel_rfl) (A.ldA 1 rfl (o := 6) (n := 4) ⟨Nat.le_of_ble_eq_true rfl, rfl⟩))) fun fr t H => ?_))
  obtain ⟨x1, hx, hm⟩ := bind_some hm
  obtain ⟨v1, h3, hr, rfl, A1⟩ := ok_class_Set_Bytes (av := [.agg (e_A4_uint64 p0.Set)]) hx (A.cut 0)
  replace A : HH g h3 [.lst (some h1.size) 5 ([Ab (91 : Int)]), .obj h.size (.cells none 2 (e_S_tree_Node p0)), _] F := A.glue0 (n := 0) A1
  refine at_lc1 18 hr H fun fr t H => ?_
  obtain ⟨hb, hm⟩ := need_some hm
  obtain ⟨h4, e3⟩ : ∃ x, x = h3.push (.cells (some 5) 2 (x1.map fun b => Ab b.toNat)) := ⟨_, rfl⟩
  replace A := (A.pushL _ _).to e3
  rw [map_eY] at A
  refine at_l1 19 (rowV (some h3.size) x1.length) h4 H (fun fr => .of (s_toB (by kernel_rfl) hb (congrArg some e3.symm))) fun fr t H => ?_
  refine at_L 2 [(20, Ai (x1.length : Int)), (21, Ai 0)] H fun fr H => aw_block (id := 1) (by kernel_rfl) ?_
  replace A : HH g h4 [_, .lst (some h1.size) 5 (lst eY ([(91 : UInt8)] : List UInt8)), _, _] F := A
  obtain ⟨o1, ho, hm⟩ := bind_some hm
  refine aw_mono (Q' := fun e fr' h' => (∃ x4, e = .exit 1 ∧ x4 = o1 ∧ ∃ r2, Has fr' 110 [(5, rowV r2 x4.length)] ∧ HH g h' [.lst r2 5 (lst eY x4), .obj h.size (.cells none 2 (e_S_tree_Node p0)), .lst rp1 9 (lst eS p1)] F) ∨ False) ?_ ?_
  ·refine aw_loop (by kernel_rfl) (fun (s : (List UInt8) × Int) fr' h' => ∃ x2 x3, (x2, x3) = s ∧ ∃ r1, Has fr' 110 [(5, rowV r1 x2.length), (19, rowV (some h3.size) x1.length), (20, Ai (x1.length : Int)), (21, Ai x3)] ∧ HH g h' [.lst (some h3.size) 5 (lst eY x1), .lst r1 5 (lst eY x2), .obj h.size (.cells none 2 (e_S_tree_Node p0)), .lst rp1 9 (lst eS p1)] F) ho ⟨_, _, rfl, some h1.size, H.ls, A⟩ ?_
   clear ho hm H A
   intro s q fr h5 hI hm
   obtain ⟨x2, x3, rfl, r1, H, A⟩ := hI
   unfold M_tree_text_sRO_L0 at hm
   refine aw_sr 1 (at_L 1 [(22, .bool (decide (x3 < (x1.length : Int))))] H fun fr H => aw_sq (aw_if 22 H hm (fun hb hm H => ?_) fun hb hm H => ?_))
   ·refine aw_kn id (aw_sq (aw_block (id := 2) (by kernel_rfl) ?_))
    refine aw_sr 3 ?_
    obtain ⟨x5, hx, hm⟩ := bind_some hm
    obtain ⟨i1, er1, _, hx, hq1⟩ := HH.ixO encY (by decide) A 0 (xs := x1) rfl hx
    refine at_l1 23 (.ptr (some (i1, x3.toNat * 1))) h5 H (fun fr => .of (s_ixL (s := rowS (some h3.size) x1.length) (by kernel_rfl) hx)) fun fr t H => ?_
    refine at_l1 24 _ _ H (fun fr => .of (s_ld (by kernel_rfl) (row_ld1 encY (HH.row A 0 rfl er1) hq1 (o := 0) rfl))) fun fr t H => ?_
    refine at_L 1 [(7, Ab (x5.toNat : Int))] H fun fr H => aw_dg 9 10 ?_
    obtain ⟨x6, hx, hm⟩ := bind_some hm
    refine at_g1 3 [(25, rowV r1 x2.length)] 28 (Ab x6) h5 H (fun fr => .of (s_ixS (by kernel_rfl) hx)) fun fr t H => ?_
    obtain ⟨x7, hx, hm⟩ := bind_some hm
    refine at_g1 2 [] 31 (Ab x7) h5 H (fun fr => .of (s_ixS (by kernel_rfl) hx)) fun fr t H => ?_
    obtain ⟨x8, hx, hm⟩ := bind_some hm
    have hx := toY_eq hx
    have kH := hm
    have kA := A
    have kR := H
    subst hx
    have hm := kH
    have A := kA
    have H := kR
    clear kH kA kR
    obtain ⟨x9, hx, hm⟩ := bind_some hm
    have hx := toY_eq hx
    have kH := hm
    have kA := A
    have kR := H
    subst hx
    have hm := kH
    have A := kA
    have H := kR
    clear kH kA kR
    obtain ⟨h6, e4, A⟩ := A.pL 5 [Ab (x8.toNat : Int), Ab (x9.toNat : Int)]
    refine at_ln 32 (rowV (some h5.size) (([x8, x9] : List UInt8).length)) e4 H fun fr t H => ?_
    obtain ⟨hb, hm⟩ := need_some hm
    obtain ⟨r3, h7, hx, A1⟩ := HH.appO encY (by decide) A 2 (xs := x2) (ys := ([x8, x9] : List UInt8)) rfl (row_first A 0 rfl (n := ([x8, x9] : List UInt8).length) (z := 1) rfl (by decide)) rfl rfl hb
    replace A : HH g h7 [.lst (some h5.size) 5 ([Ab (x8.toNat : Int), Ab (x9.toNat : Int)]), _, .lst r3 5 (lst eY (x2 ++ ([x8, x9] : List UInt8))), _, _] F := A1
    replace A := A.k4 1 2 3 4
    refine at_l1 33 _ _ H (fun fr => .of (s_app (s := rowS r1 x2.length) (by kernel_rfl) hx)) fun fr t H => ?_
    refine at_se 1 [(5, rowV r3 ((x2 ++ ([x8, x9] : List UInt8)).length)), (19, rowV (some h3.size) x1.length), (20, Ai (x1.length : Int)), (21, Ai x3)] H fun fr H => at_nr 2 id (at_se 2 [(5, rowV r3 ((x2 ++ ([x8, x9] : List UInt8)).length)), (19, rowV (some h3.size) x1.length), (20, Ai (x1.length : Int)), (21, Ai (IntKind.i64.wrap (x3 + 1)))] H fun fr H => at_nil ?_)
    exact nx hm ⟨_, _, rfl, _, H.ls, A⟩
   refine aw_exit (i := 1) (by kernel_rfl) ?_
   replace A := A.k3 1 2 3
   exact nr hm fun e => .inl ⟨_, rfl, e, _, H.ls, A⟩
  clear ho
  clear A
  intro e fr h8 hQ
  rcases hQ with ⟨x4, rfl, rfl, r2, H, A⟩ | hF
  ·show AW _ _ _ _ _ _ _
   refine aw_sr 5 (at_sl 1 [(35, rowV r2 x4.length)] H fun fr H => ?_)
   obtain ⟨h9, e5, A⟩ := A.pL 5 [Ab 93]
   refine at_ln 36 (rowV (some h8.size) (([(93 : UInt8)] : List UInt8).length)) e5 H fun fr t H => ?_
   obtain ⟨hb, hm⟩ := need_some hm
   obtain ⟨r4, h10, hx, A1⟩ := HH.appO encY (by decide) A 1 (xs := x4) (ys := ([(93 : UInt8)] : List UInt8)) rfl (row_first A 0 rfl (n := ([(93 : UInt8)] : List UInt8).length) (z := 1) rfl (by decide)) rfl rfl hb
   replace A : HH g h10 [.lst (some h8.size) 5 ([Ab 93]), .lst r4 5 (lst eY (x4 ++ ([(93 : UInt8)] : List UInt8))), _, _] F := A1
   replace A := A.k3 1 2 3
   refine at_l1 37 _ _ H (fun fr => .of (s_app (s := rowS r2 x4.length) (by kernel_rfl) hx)) fun fr t H => ?_
   refine at_l1 38 (.str (x4 ++ ([(93 : UInt8)] : List UInt8))) h10 H (fun fr => .of (s_byO (xs := (x4 ++ ([(93 : UInt8)] : List UInt8))) A 0 rfl (by kernel_rfl))) fun fr t H => ?_
   refine at_L 1 [(4, .str (x4 ++ ([(93 : UInt8)] : List UInt8)))] H fun fr H => aw_rt ?_
   obtain rfl := injA hm
   refine ⟨.inl rfl, .str (x4 ++ ([(93 : UInt8)] : List UInt8)), rH H, ?_⟩
   replace A := A.k1 2
   exact ⟨rfl, A⟩
  exact hF.elim
 refine aw_sr 2 (at_L 2 [(39, .bool (p0.Kind == 2))] H fun fr H => aw_if 39 H hm (fun hb hm H => ?_) fun hb hm H => ?_)
 ·refine aw_sq (aw_dg 13 15 ?_)
  refine at_gl 2 [(41, rowV rp1 p1.length)] 43 0 1 A H fun fr t H => ?_
  obtain ⟨x10, hx, hm⟩ := bind_some hm
  obtain ⟨i2, er2, _, hx, hq2⟩ := HH.ixO encS (by decide) A 1 (xs := p1) rfl hx
  refine at_l1 44 (.ptr (some (i2, p0.A.toNat * 1))) h1 H (fun fr => .of (s_ixL (s := rowS rp1 p1.length) (by kernel_rfl) hx)) fun fr t H => ?_
  refine at_l1 45 _ _ H (fun fr => .of (s_ld (by kernel_rfl) (row_ld1 encS (HH.row A 1 rfl er2) hq2 (o := 0) rfl))) fun fr t H => ?_
  obtain ⟨hb, hm⟩ := need_some hm
  refine at_l1 46 (.str (([40] : List UInt8) ++ x10)) h1 H (fun fr => .of (s_cat (by kernel_rfl) hb)) fun fr t H => ?_
  obtain ⟨hb, hm⟩ := need_some hm
  refine at_l1 47 (.str ((([40] : List UInt8) ++ x10) ++ ([46] : List UInt8))) h1 H (fun fr => .of (s_cat (by kernel_rfl) hb)) fun fr t H => ?_
  refine at_gl 2 [(48, rowV rp1 p1.length)] 50 0 2 A H fun fr t H => ?_
  obtain ⟨x11, hx, hm⟩ := bind_some hm
  obtain ⟨i3, er3, _, hx, hq3⟩ := HH.ixO encS (by decide) A 1 (xs := p1) rfl hx
  refine at_l1 51 (.ptr (some (i3, p0.B.toNat * 1))) h1 H (fun fr => .of (s_ixL (s := rowS rp1 p1.length) (by kernel_rfl) hx)) fun fr t H => ?_
  refine at_l1 52 _ _ H (fun fr => .of (s_ld (by kernel_rfl) (row_ld1 encS (HH.row A 1 rfl er3) hq3 (o := 0) rfl))) fun fr t H => ?_
  obtain ⟨hb, hm⟩ := need_some hm
  refine at_l1 53 (.str (((([40] : List UInt8) ++ x10) ++ ([46] : List UInt8)) ++ x11)) h1 H (fun fr => .of (s_cat (by kernel_rfl) hb)) fun fr t H => ?_
  obtain ⟨hb, hm⟩ := need_some hm
  refine at_l1 54 (.str ((((([40] : List UInt8) ++ x10) ++ ([46] : List UInt8)) ++ x11) ++ ([41] : List UInt8))) h1 H (fun fr => .of (s_cat (by kernel_rfl) hb)) fun fr t H => ?_
  refine at_L 1 [(4, .str ((((([40] : List UInt8) ++ x10) ++ ([46] : List UInt8)) ++ x11) ++ ([41] : List UInt8)))] H fun fr H => aw_rt ?_
  obtain rfl := injA hm
  refine ⟨.inl rfl, .str ((((([40] : List UInt8) ++ x10) ++ ([46] : List UInt8)) ++ x11) ++ ([41] : List UInt8)), rH H, ?_⟩
  replace A := A.k1 1
  exact ⟨rfl, A⟩
 refine aw_sr 2 (at_L 2 [(55, .bool (p0.Kind == 3))] H fun fr H => aw_if 55 H hm (fun hb hm H => ?_) fun hb hm H => ?_)
 ·refine aw_sq (aw_dg 15 15 ?_)
  refine at_gl 2 [(57, rowV rp1 p1.length)] 59 0 1 A H fun fr t H => ?_
  obtain ⟨x12, hx, hm⟩ := bind_some hm
  obtain ⟨i4, er4, _, hx, hq4⟩ := HH.ixO encS (by decide) A 1 (xs := p1) rfl hx
  refine at_l1 60 (.ptr (some (i4, p0.A.toNat * 1))) h1 H (fun fr => .of (s_ixL (s := rowS rp1 p1.length) (by kernel_rfl) hx)) fun fr t H => ?_
  refine at_l1 61 _ _ H (fun fr => .of (s_ld (by kernel_rfl) (row_ld1 encS (HH.row A 1 rfl er4) hq4 (o := 0) rfl))) fun fr t H => ?_
  obtain ⟨hb, hm⟩ := need_some hm
  refine at_l1 62 (.str (([40] : List UInt8) ++ x12)) h1 H (fun fr => .of (s_cat (by kernel_rfl) hb)) fun fr t H => ?_
  obtain ⟨hb, hm⟩ := need_some hm
  refine at_l1 63 (.str ((([40] : List UInt8) ++ x12) ++ ([124] : List UInt8))) h1 H (fun fr => .of (s_cat (by kernel_rfl) hb)) fun fr t H => ?_
  refine at_gl 2 [(64, rowV rp1 p1.length)] 66 0 2 A H fun fr t H => ?_
  obtain ⟨x13, hx, hm⟩ := bind_some hm
  obtain ⟨i5, er5, _, hx, hq5⟩ := HH.ixO encS (by decide) A 1 (xs := p1) rfl hx
  refine at_l1 67 (.ptr (some (i5, p0.B.toNat * 1))) h1 H (fun fr => .of (s_ixL (s := rowS rp1 p1.length) (by kernel_rfl) hx)) fun fr t H => ?_
  refine at_l1 68 _ _ H (fun fr => .of (s_ld (by kernel_rfl) (row_ld1 encS (HH.row A 1 rfl er5) hq5 (o := 0) rfl))) fun fr t H => ?_
  obtain ⟨hb, hm⟩ := need_some hm
  refine at_l1 69 (.str (((([40] : List UInt8) ++ x12) ++ ([124] : List UInt8)) ++ x13)) h1 H (fun fr => .of (s_cat (by kernel_rfl) hb)) fun fr t H => ?_
  obtain ⟨hb, hm⟩ := need_some hm
  refine at_l1 70 (.str ((((([40] : List UInt8) ++ x12) ++ ([124] : List UInt8)) ++ x13) ++ ([41] : List UInt8))) h1 H (fun fr => .of (s_cat (by kernel_rfl) hb)) fun fr t H => ?_
  refine at_L 1 [(4, .str ((((([40] : List UInt8) ++ x12) ++ ([124] : List UInt8)) ++ x13) ++ ([41] : List UInt8)))] H fun fr H => aw_rt ?_
  obtain rfl := injA hm
  refine ⟨.inl rfl, .str ((((([40] : List UInt8) ++ x12) ++ ([124] : List UInt8)) ++ x13) ++ ([41] : List UInt8)), rH H, ?_⟩
  replace A := A.k1 1
  exact ⟨rfl, A⟩
 refine aw_sr 2 (at_L 2 [(71, .bool (p0.Kind == 4))] H fun fr H => aw_if 71 H hm (fun hb hm H => ?_) fun hb hm H => ?_)
 ·refine aw_sr 1 (at_L 1 [(8, .str ([] : List UInt8))] H fun fr H => aw_sq ?_)
  obtain ⟨o2, ho, hm⟩ := bind_some hm
  refine aw_mono (Q' := fun e fr' h' => (∃ x14, e = .normal ∧ x14 = o2 ∧ Has fr' 110 [(1, rowV rp1 p1.length), (2, .ptr (some (h.size, 0))), (8, .str x14)] ∧ HH g h' [.obj h.size (.cells none 2 (e_S_tree_Node p0)), .lst rp1 9 (lst eS p1)] F) ∨ False) ?_ ?_
  ·replace hm := ho
   clear ho
   refine aw_sr 3 (at_gl 1 [] 74 0 4 A H fun fr t H => ?_)
   refine at_L 1 [(75, .bool (decide (p0.Max ≥ 0)))] H fun fr H => aw_if 75 H hm (fun hb hm H => ?_) fun hb hm H => ?_
   ·refine aw_rg 4 (at_gl 1 [] 77 0 4 A H fun fr t H => ?_)
    obtain ⟨x15, hx, hm⟩ := bind_some hm
    obtain ⟨v1, h11, hr, rfl, A1⟩ := ok_strconv_Itoa (av := [Ai p0.Max]) hx (A.cut 0)
    replace A : HH g h11 [.obj h.size (.cells none 2 (e_S_tree_Node p0)), _] F := A.glue0 (n := 0) A1
    refine at_lc1 78 hr H fun fr t H => ?_
    refine at_se 1 [(1, rowV rp1 p1.length), (2, .ptr (some (h.size, 0))), (8, .str x15)] H fun fr H => at_nil ?_
    exact .inl ⟨_, rfl, injA hm, H.ls, A⟩
   exact aw_sk (.inl ⟨_, rfl, injA hm, H.ls, A⟩)
  clear ho
  clear A
  intro e fr h12 hQ
  rcases hQ with ⟨x14, rfl, rfl, H, A⟩ | hF
  ·show AW _ _ _ _ _ _ _
   refine aw_sq (aw_dw 20 16 [(0, []), (1, []), (5, []), (8, []), (9, []), (10, []), (11, []), (12, []), (2, [10, 12]), (3, []), (4, []), (6, []), (7, []), (13, []), (14, []), (15, [])] ?_)
   refine at_sl 1 [(79, .ptr (some (h.size, 3)))] H fun fr H => at_t1 80 (Ai p0.Min) h12 [(1, h.size)] (g.prot) H (fun fr => .of (s_ld (by kernel_rfl) (A.l1 0 3))) (fun fr H => ?_)
   refine at_sl 3 [(84, .str x14), (87, rowV rp1 p1.length), (88, .ptr (some (h.size, 1)))] H fun fr H => at_t1 89 (Ai p0.A) h12 [(10, h.size), (1, h.size)] (g.prot) H (fun fr => .of (s_ld (by kernel_rfl) (A.l1 0 1))) (fun fr H => ?_)
   obtain ⟨x16, hx, hm⟩ := bind_some hm
   obtain ⟨i6, er6, _, hx, hq6⟩ := HH.ixO encS (by decide) A 1 (xs := p1) rfl hx
   refine at_t1 90 (.ptr (some (i6, p0.A.toNat * 1))) h12 [(10, h.size), (1, h.size)] (g.prot) H (fun fr => .of (s_ixL (s := rowS rp1 p1.length) (by kernel_rfl) hx)) (fun fr H => ?_)
   refine at_t1 91 (.str x16) h12 [(12, i6), (10, h.size), (1, h.size)] (g.prot) H (fun fr => .of (s_ld (by kernel_rfl) (row_ld1 encS (HH.row A 1 rfl er6) hq6 (o := 0) rfl))) (fun fr H => ?_)
   have A1 := A.prot2 0 (pr := [i6, h.size]) (.cons 1 rfl (by simp [Ck.ids, er6]) (.cons 0 rfl (by simp [Ck.ids]) .nil))
   obtain ⟨x17, hx, hm⟩ := bind_some hm
   obtain ⟨v1, h13, hr, rfl, A1⟩ := ok_strconv_Itoa (av := [Ai p0.Min]) hx A1
   replace A := A.p00 A1
   refine at_t1 81 (.str x17) h13 [(12, i6), (10, h.size), (1, h.size)] (i6 :: h.size :: g.prot) H (fun fr => Steps.call (by kernel_rfl) hr) (fun fr H => ?_)
   obtain ⟨hb, hm⟩ := need_some hm
   refine at_t1 82 (.str (([123] : List UInt8) ++ x17)) h13 [(12, i6), (10, h.size), (1, h.size)] (g.prot) H (fun fr => .of (s_cat (by kernel_rfl) hb)) (fun fr H => ?_)
   obtain ⟨hb, hm⟩ := need_some hm
   refine at_t1 83 (.str ((([123] : List UInt8) ++ x17) ++ ([44] : List UInt8))) h13 [(12, i6), (10, h.size), (1, h.size)] (g.prot) H (fun fr => .of (s_cat (by kernel_rfl) hb)) (fun fr H => ?_)
   obtain ⟨hb, hm⟩ := need_some hm
   refine at_t1 85 (.str (((([123] : List UInt8) ++ x17) ++ ([44] : List UInt8)) ++ x14)) h13 [(12, i6), (10, h.size), (1, h.size)] (g.prot) H (fun fr => .of (s_cat (by kernel_rfl) hb)) (fun fr H => ?_)
   obtain ⟨hb, hm⟩ := need_some hm
   refine at_t1 86 (.str ((((([123] : List UInt8) ++ x17) ++ ([44] : List UInt8)) ++ x14) ++ ([58] : List UInt8))) h13 [(12, i6), (10, h.size), (1, h.size)] (g.prot) H (fun fr => .of (s_cat (by kernel_rfl) hb)) (fun fr H => ?_)
   obtain ⟨hb, hm⟩ := need_some hm
   refine at_t1 92 (.str (((((([123] : List UInt8) ++ x17) ++ ([44] : List UInt8)) ++ x14) ++ ([58] : List UInt8)) ++ x16)) h13 [(12, i6), (10, h.size), (1, h.size)] (g.prot) H (fun fr => .of (s_cat (by kernel_rfl) hb)) (fun fr H => ?_)
   obtain ⟨hb, hm⟩ := need_some hm
   refine at_t1 93 (.str ((((((([123] : List UInt8) ++ x17) ++ ([44] : List UInt8)) ++ x14) ++ ([58] : List UInt8)) ++ x16) ++ ([125] : List UInt8))) h13 [(12, i6), (10, h.size), (1, h.size)] (g.prot) H (fun fr => .of (s_cat (by kernel_rfl) hb)) (fun fr H => ?_)
   refine at_L 1 [(4, .str ((((((([123] : List UInt8) ++ x17) ++ ([44] : List UInt8)) ++ x14) ++ ([58] : List UInt8)) ++ x16) ++ ([125] : List UInt8)))] H fun fr H => aw_rt ?_
   obtain rfl := injA hm
   refine ⟨.inl rfl, .str ((((((([123] : List UInt8) ++ x17) ++ ([44] : List UInt8)) ++ x14) ++ ([58] : List UInt8)) ++ x16) ++ ([125] : List UInt8)), rH H, ?_⟩
   replace A := A.k1 1
   exact ⟨rfl, A⟩
  exact hF.elim
 refine aw_sr 2 (at_L 2 [(94, .bool (p0.Kind == 5))] H fun fr H => aw_if 94 H hm (fun hb hm H => ?_) fun hb hm H => ?_)
 ·refine aw_sq (aw_dw 22 13 [(0, []), (1, []), (5, []), (6, []), (7, []), (8, []), (9, []), (2, [7, 9]), (3, []), (4, []), (10, []), (11, []), (12, [])] ?_)
  refine at_sl 1 [(96, .ptr (some (h.size, 5)))] H fun fr H => at_t1 97 (Ai p0.Group) h1 [(1, h.size)] (g.prot) H (fun fr => .of (s_ld (by kernel_rfl) (A.l1 0 5))) (fun fr H => ?_)
  refine at_sl 2 [(101, rowV rp1 p1.length), (102, .ptr (some (h.size, 1)))] H fun fr H => at_t1 103 (Ai p0.A) h1 [(7, h.size), (1, h.size)] (g.prot) H (fun fr => .of (s_ld (by kernel_rfl) (A.l1 0 1))) (fun fr H => ?_)
  obtain ⟨x18, hx, hm⟩ := bind_some hm
  obtain ⟨i7, er7, _, hx, hq7⟩ := HH.ixO encS (by decide) A 1 (xs := p1) rfl hx
  refine at_t1 104 (.ptr (some (i7, p0.A.toNat * 1))) h1 [(7, h.size), (1, h.size)] (g.prot) H (fun fr => .of (s_ixL (s := rowS rp1 p1.length) (by kernel_rfl) hx)) (fun fr H => ?_)
  refine at_t1 105 (.str x18) h1 [(9, i7), (7, h.size), (1, h.size)] (g.prot) H (fun fr => .of (s_ld (by kernel_rfl) (row_ld1 encS (HH.row A 1 rfl er7) hq7 (o := 0) rfl))) (fun fr H => ?_)
  have A1 := A.prot2 0 (pr := [i7, h.size]) (.cons 1 rfl (by simp [Ck.ids, er7]) (.cons 0 rfl (by simp [Ck.ids]) .nil))
  obtain ⟨x19, hx, hm⟩ := bind_some hm
  obtain ⟨v1, h14, hr, rfl, A1⟩ := ok_strconv_Itoa (av := [Ai p0.Group]) hx A1
  replace A : HH g h14 [.obj h.size (.cells none 2 (e_S_tree_Node p0)), _] F := A.glueP (n := 0) A1
  refine at_t1 98 (.str x19) h14 [(9, i7), (7, h.size), (1, h.size)] (i7 :: h.size :: g.prot) H (fun fr => Steps.call (by kernel_rfl) hr) (fun fr H => ?_)
  obtain ⟨hb, hm⟩ := need_some hm
  refine at_t1 99 (.str (([60] : List UInt8) ++ x19)) h14 [(9, i7), (7, h.size), (1, h.size)] (g.prot) H (fun fr => .of (s_cat (by kernel_rfl) hb)) (fun fr H => ?_)
  obtain ⟨hb, hm⟩ := need_some hm
  refine at_t1 100 (.str ((([60] : List UInt8) ++ x19) ++ ([58] : List UInt8))) h14 [(9, i7), (7, h.size), (1, h.size)] (g.prot) H (fun fr => .of (s_cat (by kernel_rfl) hb)) (fun fr H => ?_)
  obtain ⟨hb, hm⟩ := need_some hm
  refine at_t1 106 (.str (((([60] : List UInt8) ++ x19) ++ ([58] : List UInt8)) ++ x18)) h14 [(9, i7), (7, h.size), (1, h.size)] (g.prot) H (fun fr => .of (s_cat (by kernel_rfl) hb)) (fun fr H => ?_)
  obtain ⟨hb, hm⟩ := need_some hm
  refine at_t1 107 (.str ((((([60] : List UInt8) ++ x19) ++ ([58] : List UInt8)) ++ x18) ++ ([62] : List UInt8))) h14 [(9, i7), (7, h.size), (1, h.size)] (g.prot) H (fun fr => .of (s_cat (by kernel_rfl) hb)) (fun fr H => ?_)
  refine at_L 1 [(4, .str ((((([60] : List UInt8) ++ x19) ++ ([58] : List UInt8)) ++ x18) ++ ([62] : List UInt8)))] H fun fr H => aw_rt ?_
  obtain rfl := injA hm
  refine ⟨.inl rfl, .str ((((([60] : List UInt8) ++ x19) ++ ([58] : List UInt8)) ++ x18) ++ ([62] : List UInt8)), rH H, ?_⟩
  replace A := A.k1 1
  exact ⟨rfl, A⟩
 refine aw_sr 2 (at_L 2 [(108, .bool (p0.Kind == 6))] H fun fr H => aw_if 108 H hm (fun hb hm H => ?_) fun hb hm H => ?_)
 ·refine aw_sr 1 (at_L 1 [(4, .str ([94] : List UInt8))] H fun fr H => aw_rt ?_)
  obtain rfl := injA hm
  refine ⟨.inl rfl, .str ([94] : List UInt8), rH H, ?_⟩
  replace A := A.k1 1
  exact ⟨rfl, A⟩
 refine aw_ks 1 id (at_L 1 [(4, .str ([36] : List UInt8))] H fun fr H => aw_rt ?_)
 obtain rfl := injA hm
 refine ⟨.inl rfl, .str ([36] : List UInt8), rH H, ?_⟩
 replace A := A.k1 1
 exact ⟨rfl, A⟩
def M_tree_Tree_Groups_L0 (p0 : S_tree_Tree) (x2 : List Bool) (s : Int × Int) : Option ((Int × Int) ⊕ ((Int))) :=
 match s with
 | (x3, x4) => iteB (decide (x4 < (x2.length : Int))) (((ixV x2 x4).bind fun x7 => iteB x7 ((ixV p0.Nodes x4).bind fun x8 => some (mx x3 x8.Group)) (some x3) : Option ((Int))).bind fun x6 => some (.inl (x6, IntKind.i64.wrap (x4 + 1)))) (some (.inr x3))
def M_tree_Tree_Groups (p0 : S_tree_Tree) : Option (Int) :=
 (M_tree_Tree_Right p0).bind fun x1 => iteB (!x1) (some (0 : Int)) ((M_tree_Tree_used p0).bind fun x2 => (loop (M_tree_Tree_Groups_L0 p0 x2) ((0 : Int), (0 : Int))).bind fun x5 => some x5)
theorem ok_tree_Tree_Groups {p0 q0} (hm : M_tree_Tree_Groups p0 = some q0) (A : HH g h [] F) (hc : canL (cfg.still 9) av = [.agg (e_S_tree_Tree p0)] := by kernel_rfl) : ∃ v h', Runs cfg g h 9 av v h' ∧ v = Ai q0 ∧ HH g h' [] F := by
 refine rq1 28 [.tmp 2] hc ?_
 clear hc
 unfold M_tree_Tree_Groups at hm
 refine bg 28 [(0, .agg (e_S_tree_Tree p0))] fun fr H => ?_
 refine aw_sr 2 ?_
 obtain ⟨h1, e1, A⟩ := A.pu (.cells none 2 (e_S_tree_Tree p0))
 refine at_ln 1 (.ptr (some (h.size, 0))) e1 H fun fr t H => ?_
 refine at_L 1 [] H fun fr H => aw_sq (aw_sr 3 (at_l1 6 _ _ H (fun fr => .of (s_ldA (by kernel_rfl) (A.ldA 0 rfl (o := 0) (n := 2) ⟨Nat.le_of_ble_eq_true rfl, rfl⟩))) fun fr t H => ?_))
 obtain ⟨x1, hx, hm⟩ := bind_some hm
 obtain ⟨v1, h2, hr, rfl, A1⟩ := ok_tree_Tree_Right (av := [.agg (e_S_tree_Tree p0)]) hx (A.cut 0)
 replace A : HH g h2 [.obj h.size (.cells none 2 (e_S_tree_Tree p0))] F := A.glue0 (n := 0) A1
 refine at_lc1 7 hr H fun fr t H => ?_
 refine at_L 1 [(8, .bool (!x1))] H fun fr H => aw_if 8 H hm (fun hb hm H => ?_) fun hb hm H => ?_
 ·refine aw_sr 1 (at_L 1 [(2, Ai 0)] H fun fr H => aw_rt ?_)
  obtain rfl := injA hm
  refine ⟨.inl rfl, Ai 0, rH H, ?_⟩
  replace A := A.d0
  exact ⟨rfl, A⟩
 refine aw_ks 1 id (at_L 1 [(3, Ai 0)] H fun fr H => aw_sq (aw_sr 4 (at_l1 9 _ _ H (fun fr => .of (s_ldA (by kernel_rfl) (A.ldA 0 rfl (o := 0) (n := 2) ⟨Nat.le_of_ble_eq_true rfl, rfl⟩))) fun fr t H => ?_)))
 obtain ⟨x2, hx, hm⟩ := bind_some hm
 obtain ⟨v1, h3, hr, rqw2, rfl, A1⟩ := ok_tree_Tree_used (av := [.agg (e_S_tree_Tree p0)]) hx (A.cut 0)
 replace A := A.g01 A1
 refine at_lc1 10 hr H fun fr t H => ?_
 refine at_L 2 [(11, Ai (x2.length : Int)), (12, Ai 0)] H fun fr H => aw_block (id := 0) (by kernel_rfl) ?_
 obtain ⟨o1, ho, hm⟩ := bind_some hm
 refine aw_mono (Q' := fun e fr' h' => (∃ x5, e = .exit 0 ∧ x5 = o1 ∧ Has fr' 28 [(3, Ai x5)] ∧ HH g h' [.obj h.size (.cells none 2 (e_S_tree_Tree p0))] F) ∨ False) ?_ ?_
 ·refine aw_loop (by kernel_rfl) (fun (s : Int × Int) fr' h' => ∃ x3 x4, (x3, x4) = s ∧ Has fr' 28 [(1, .ptr (some (h.size, 0))), (3, Ai x3), (10, rowV rqw2 x2.length), (11, Ai (x2.length : Int)), (12, Ai x4)] ∧ HH g h' [.lst rqw2 4 (lst eB x2), .obj h.size (.cells none 2 (e_S_tree_Tree p0))] F) ho ⟨_, _, rfl, H.ls, A⟩ ?_
  clear ho hm H A
  intro s q fr h4 hI hm
  obtain ⟨x3, x4, rfl, H, A⟩ := hI
  unfold M_tree_Tree_Groups_L0 at hm
  refine aw_sr 1 (at_L 1 [(13, .bool (decide (x4 < (x2.length : Int))))] H fun fr H => aw_sq (aw_if 13 H hm (fun hb hm H => ?_) fun hb hm H => ?_))
  ·refine aw_kn id (aw_sq ?_)
   obtain ⟨o2, ho, hm⟩ := bind_some hm
   refine aw_mono (Q' := fun e fr' h' => (∃ x6, e = .normal ∧ x6 = o2 ∧ Has fr' 28 [(1, .ptr (some (h.size, 0))), (3, Ai x6), (10, rowV rqw2 x2.length), (11, Ai (x2.length : Int)), (12, Ai x4)] ∧ HH g h' [.lst rqw2 4 (lst eB x2), .obj h.size (.cells none 2 (e_S_tree_Tree p0))] F) ∨ False) ?_ ?_
   ·replace hm := ho
    clear ho
    refine aw_block (id := 1) (by kernel_rfl) ?_
    refine aw_sr 5 ?_
    obtain ⟨x7, hx, hm⟩ := bind_some hm
    obtain ⟨i1, er1, _, hx, hq1⟩ := HH.ixO encB (by decide) A 0 (xs := x2) rfl hx
    refine at_g1 1 [(14, Ai x4)] 15 (.ptr (some (i1, x4.toNat * 1))) h4 H (fun fr => .of (s_ixL (s := rowS rqw2 x2.length) (by kernel_rfl) hx)) fun fr t H => ?_
    refine at_l1 16 _ _ H (fun fr => .of (s_ld (by kernel_rfl) (row_ld1 encB (HH.row A 0 rfl er1) hq1 (o := 0) rfl))) fun fr t H => ?_
    refine at_S 2 [(4, Ai x4), (5, .bool x7)] 1 H fun fr H => at_L 1 [(17, .bool x7)] H fun fr H => aw_if 17 H hm (fun hb hm H => ?_) fun hb hm H => ?_
    ·refine aw_rg 9 (at_gl 2 [(18, Ai x3)] 20 1 0 A H fun fr t H => ?_)
     obtain ⟨x8, hx, hm⟩ := bind_some hm
     refine at_g1 1 [] 22 (.vptr (e_S_tree_Node x8)) h4 H (fun fr => .of (s_ixV (e := e_S_tree_Node) (x := x8) enc_S_tree_Node (by decide) (by kernel_rfl) hx)) fun fr t H => ?_
     refine at_g1 1 [] 24 (Ai x8.Group) h4 H (fun fr => .of (s_lv (by kernel_rfl))) fun fr t H => ?_
     refine at_se 2 [(1, .ptr (some (h.size, 0))), (3, Ai (mx x3 x8.Group)), (10, rowV rqw2 x2.length), (11, Ai (x2.length : Int)), (12, Ai x4)] H fun fr H => at_nil ?_
     exact .inl ⟨_, rfl, injA hm, H.ls, A⟩
    exact aw_sk (.inl ⟨_, rfl, injA hm, H.ls, A⟩)
   clear ho
   clear A
   intro e fr h5 hQ
   rcases hQ with ⟨x6, rfl, rfl, H, A⟩ | hF
   ·show AW _ _ _ _ _ _ _
    refine aw_rg 2 (at_se 2 [(1, .ptr (some (h.size, 0))), (3, Ai x6), (10, rowV rqw2 x2.length), (11, Ai (x2.length : Int)), (12, Ai (IntKind.i64.wrap (x4 + 1)))] H fun fr H => at_nil ?_)
    exact nx hm ⟨_, _, rfl, H.ls, A⟩
   exact hF.elim
  refine aw_exit (i := 0) (by kernel_rfl) ?_
  replace A := A.k1 1
  exact nr hm fun e => .inl ⟨_, rfl, e, H.ls, A⟩
 clear ho
 clear A
 intro e fr h6 hQ
 rcases hQ with ⟨x5, rfl, rfl, H, A⟩ | hF
 ·show AW _ _ _ _ _ _ _
  refine aw_sr 2 (at_L 2 [(2, Ai x5)] H fun fr H => aw_rt ?_)
  obtain rfl := injA hm
  refine ⟨.inl rfl, Ai x5, rH H, ?_⟩
  replace A := A.d0
  exact ⟨rfl, A⟩
 exact hF.elim
end
end Go.Av.L
