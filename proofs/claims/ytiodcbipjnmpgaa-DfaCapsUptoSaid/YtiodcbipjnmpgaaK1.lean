/-
 Models of functions, and that the abstract run tells them. Written by lift2.py.
-/
import Derived.Test.YtiodcbipjnmpgaaKCfg
import Derived.Test.YtiodcbipjnmpgaaK0
namespace Go.Av.L
open Go.Av Go.Lib
set_option maxRecDepth 10000
set_option linter.unusedVariables false
set_option linter.unusedSimpArgs false
variable {g : Gd} {h : AHeap} {F : List Ck} {av : List AVal}
noncomputable def M_tree_Tree_Add_sQ3OR (p0 : S_rex_walk) (p1 : S_tree_Node) : Option (Int × Int × S_rex_walk × (List S_tree_Node)) :=
 iteB (decide ((p0.t_.Nodes.length : Int) ≥ (1024 : Int))) (some ((0 : Int), (8 : Int), p0, p0.t_.Nodes)) ((M_tree_may p1 (p0.t_.Nodes.length : Int)).bind fun x1 => iteB (!x1) (some ((0 : Int), (1 : Int), p0, p0.t_.Nodes)) (need (okN 80 (p0.t_.Nodes.length + ([p1] : List S_tree_Node).length)) <| some (IntKind.i64.wrap (((p0.t_.Nodes ++ ([p1] : List S_tree_Node)).length : Int) - (1 : Int)), (0 : Int), (⟨p0.s_, p0.at_, p0.extended_, (⟨(p0.t_.Nodes ++ ([p1] : List S_tree_Node)), IntKind.i64.wrap (((p0.t_.Nodes ++ ([p1] : List S_tree_Node)).length : Int) - (1 : Int))⟩ : S_tree_Tree), p0.groups_, p0.depth_, p0.wrong_, p0.full_⟩ : S_rex_walk), (p0.t_.Nodes ++ ([p1] : List S_tree_Node)))))
theorem ok_tree_Tree_Add_sQ3OR {p0 p1 bp0 rp0_3 q0 q1 u0 u1} (hm : M_tree_Tree_Add_sQ3OR p0 p1 = some (q0, q1, u0, u1)) (A : HH g h [.obj bp0 (.cells none 2 [.str p0.s_, .int .i64 p0.at_, .bool p0.extended_, rowV rp0_3 p0.t_.Nodes.length, .int .i64 p0.t_.Root, .int .i64 p0.groups_, .int .i64 p0.depth_, .int .i64 p0.wrong_, .bool p0.full_]), .lst rp0_3 68 (lst e_S_tree_Node p0.t_.Nodes)] F) (hc : canL (cfg.still 91) av = [.ptr (some (bp0, 3)), .agg (e_S_tree_Node p1)] := by kernel_rfl) : ∃ v h', Runs cfg g h 91 av v h' ∧ ∃ (r'1 : Option Nat), v = .tuple [.int .i64 q0, .int .i64 q1] ∧ HH g h' [.obj bp0 (.cells none 2 [.str u0.s_, .int .i64 u0.at_, .bool u0.extended_, rowV r'1 u1.length, .int .i64 u0.t_.Root, .int .i64 u0.groups_, .int .i64 u0.depth_, .int .i64 u0.wrong_, .bool u0.full_]), .lst r'1 68 (lst e_S_tree_Node u1)] F := by
 refine rq1 45 [.tmp 4, .tmp 5] hc ?_
 clear hc
 unfold M_tree_Tree_Add_sQ3OR at hm
 refine bg 45 [(0, .ptr (some (bp0, 3))), (1, .agg (e_S_tree_Node p1))] fun fr H => ?_
 refine aw_sr 3 ?_
 obtain ⟨h1, e1, A⟩ := A.pu (.cells none 2 (e_S_tree_Node p1))
 refine at_ln 3 (.ptr (some (h.size, 0))) e1 H fun fr t H => ?_
 refine at_el 2 [] H (fun _ => id) fun fr H => ?_
 refine aw_sq ?_
 refine aw_block (id := 0) (by kernel_rfl) ?_
 refine aw_sr 7 ?_
 refine at_gl 3 [] 10 1 3 A H fun fr t H => ?_
 refine at_el 3 [(6, .bool (decide ((p0.t_.Nodes.length : Int) ≥ (1024 : Int))))] H (fun _ => id) fun fr H => ?_
 refine aw_if 6 H hm (fun hb hm H => ?_) fun hb hm H => ?_
 ·refine aw_sr 2 ?_
  refine at_el 2 [(4, .int .i64 0), (5, .int .i64 8)] H (fun _ => id) fun fr H => ?_
  refine aw_rt ?_
  obtain ⟨rfl, rfl, rfl, rfl⟩ := injD hm
  refine ⟨.inl rfl, .tuple [.int .i64 0, .int .i64 8], rH H, ?_⟩
  replace A := A.k2 1 2
  exact ⟨rp0_3, rfl, A⟩
 refine aw_sq ?_
 refine aw_dg 3 9 ?_
 refine at_l1 14 _ _ H (fun fr => .of (s_ldA (by kernel_rfl) (A.ldA 0 rfl (o := 0) (n := 10) ⟨Nat.le_of_ble_eq_true rfl, rfl⟩))) fun fr t H => ?_
 refine at_gl 3 [] 18 1 3 A H fun fr t H => ?_
 obtain ⟨x1, hx, hm⟩ := bind_some hm
 obtain ⟨v1, h2, hr, rfl, A1⟩ := ok_tree_may (av := [.agg (e_S_tree_Node p1), .int .i64 (p0.t_.Nodes.length : Int)]) hx (A.cut 0)
 replace A : HH g h2 [.obj h.size (.cells none 2 (e_S_tree_Node p1)), _, _] F := A.glue0 (n := 0) A1
 refine at_gc1 1 [] 20 hr H fun fr t H => ?_
 refine at_el 2 [(13, .bool (!x1))] H (fun _ => id) fun fr H => ?_
 refine aw_if 13 H hm (fun hb hm H => ?_) fun hb hm H => ?_
 ·refine aw_sr 2 ?_
  refine at_el 2 [(4, .int .i64 0), (5, .int .i64 1)] H (fun _ => id) fun fr H => ?_
  refine aw_rt ?_
  obtain ⟨rfl, rfl, rfl, rfl⟩ := injD hm
  refine ⟨.inl rfl, .tuple [.int .i64 0, .int .i64 1], rH H, ?_⟩
  replace A := A.k2 1 2
  exact ⟨rp0_3, rfl, A⟩
 refine aw_kn id ?_
 refine aw_sq ?_
 refine aw_dg 5 11 ?_
 refine at_gl 4 [(22, .ptr (some (bp0, 3)))] 26 1 3 A H fun fr t H => ?_
 refine at_l1 27 _ _ H (fun fr => .of (s_ldA (by kernel_rfl) (A.ldA 0 rfl (o := 0) (n := 10) ⟨Nat.le_of_ble_eq_true rfl, rfl⟩))) fun fr t H => ?_
 obtain ⟨h3, e2, A⟩ := A.pL 68 [.int .i64 p1.Kind, .int .i64 p1.A, .int .i64 p1.B, .int .i64 p1.Min, .int .i64 p1.Max, .int .i64 p1.Group, .int .u64 p1.Set.w0, .int .u64 p1.Set.w1, .int .u64 p1.Set.w2, .int .u64 p1.Set.w3]
 refine at_ln 28 (rowV (some h2.size) (([p1] : List S_tree_Node).length)) e2 H fun fr t H => ?_
 obtain ⟨hb, hm⟩ := need_some hm
 obtain ⟨r1, h4, hx, A1⟩ := HH.appO enc_S_tree_Node (by decide) A 3 (xs := p0.t_.Nodes) (ys := ([p1] : List S_tree_Node)) rfl (row_first A 0 rfl (n := ([p1] : List S_tree_Node).length) (z := 10) rfl (by decide)) rfl rfl hb
 replace A : HH g h4 [.lst (some h2.size) 68 ([.int .i64 p1.Kind, .int .i64 p1.A, .int .i64 p1.B, .int .i64 p1.Min, .int .i64 p1.Max, .int .i64 p1.Group, .int .u64 p1.Set.w0, .int .u64 p1.Set.w1, .int .u64 p1.Set.w2, .int .u64 p1.Set.w3]), _, _, .lst r1 68 (lst e_S_tree_Node (p0.t_.Nodes ++ ([p1] : List S_tree_Node)))] F := A1
 replace A := A.k3 1 2 3
 refine at_l1 29 _ _ H (fun fr => .of (s_app (s := rowS rp0_3 p0.t_.Nodes.length) (by kernel_rfl) hx)) fun fr t H => ?_
 obtain ⟨h5, hx, A1⟩ := A.st 1 rfl (o := 3) (new := [rowV r1 ((p0.t_.Nodes ++ ([p1] : List S_tree_Node)).length)]) (ds := [.str p0.s_, .int .i64 p0.at_, .bool p0.extended_, rowV r1 ((p0.t_.Nodes ++ ([p1] : List S_tree_Node)).length), .int .i64 p0.t_.Root, .int .i64 p0.groups_, .int .i64 p0.depth_, .int .i64 p0.wrong_, .bool p0.full_]) (Nat.le_of_ble_eq_true rfl) rfl rfl
 replace A : HH g h5 [_, .obj bp0 (.cells none 2 [_, _, _, rowV r1 ((p0.t_.Nodes ++ ([p1] : List S_tree_Node)).length), _, _, _, _, _]), _] F := A1
 refine at_gs 2 [] hx H fun fr t H => ?_
 refine at_ns 10 id ?_
 refine at_gl 4 [(32, .ptr (some (bp0, 3)))] 36 1 3 A H fun fr t H => ?_
 obtain ⟨h6, hx, A1⟩ := A.st 1 rfl (o := 4) (new := [.int .i64 (IntKind.i64.wrap (((p0.t_.Nodes ++ ([p1] : List S_tree_Node)).length : Int) - (1 : Int)))]) (ds := [.str p0.s_, .int .i64 p0.at_, .bool p0.extended_, rowV r1 ((p0.t_.Nodes ++ ([p1] : List S_tree_Node)).length), .int .i64 (IntKind.i64.wrap (((p0.t_.Nodes ++ ([p1] : List S_tree_Node)).length : Int) - (1 : Int))), .int .i64 p0.groups_, .int .i64 p0.depth_, .int .i64 p0.wrong_, .bool p0.full_]) (Nat.le_of_ble_eq_true rfl) rfl rfl
 replace A : HH g h6 [_, .obj bp0 (.cells none 2 [_, _, _, _, .int .i64 (IntKind.i64.wrap (((p0.t_.Nodes ++ ([p1] : List S_tree_Node)).length : Int) - (1 : Int))), _, _, _, _]), _] F := A1
 refine at_gs 4 [] hx H fun fr t H => ?_
 refine at_ns 6 id ?_
 refine at_gl 3 [] 44 1 4 A H fun fr t H => ?_
 refine at_el 2 [(4, .int .i64 (IntKind.i64.wrap (((p0.t_.Nodes ++ ([p1] : List S_tree_Node)).length : Int) - (1 : Int)))), (5, .int .i64 0)] H (fun _ => id) fun fr H => ?_
 refine aw_rt ?_
 obtain ⟨rfl, rfl, rfl, rfl⟩ := injD hm
 refine ⟨.inl rfl, .tuple [.int .i64 (IntKind.i64.wrap (((p0.t_.Nodes ++ ([p1] : List S_tree_Node)).length : Int) - (1 : Int))), .int .i64 0], rH H, ?_⟩
 replace A := A.k2 1 2
 exact ⟨r1, rfl, A⟩
noncomputable def M_rex_walk_add_sPOR (p0 : S_rex_walk) (p1 : S_tree_Node) : Option (Int × S_rex_walk × (List S_tree_Node)) :=
 iteB p0.full_ (some ((0 : Int), p0, p0.t_.Nodes)) ((M_tree_Tree_Add_sQ3OR p0 p1).bind fun (x1, x2, x3, x4) => (iteB (x2 != (0 : Int)) (some true) (some x3.full_) : Option ((Bool))).bind fun x5 => some (x1, (⟨x3.s_, x3.at_, x3.extended_, (⟨x4, x3.t_.Root⟩ : S_tree_Tree), x3.groups_, x3.depth_, x3.wrong_, x5⟩ : S_rex_walk), x4))
theorem ok_rex_walk_add_sPOR {p0 p1 bp0 rp0_3 q0 u0 u1} (hm : M_rex_walk_add_sPOR p0 p1 = some (q0, u0, u1)) (A : HH g h [.obj bp0 (.cells none 2 [.str p0.s_, .int .i64 p0.at_, .bool p0.extended_, rowV rp0_3 p0.t_.Nodes.length, .int .i64 p0.t_.Root, .int .i64 p0.groups_, .int .i64 p0.depth_, .int .i64 p0.wrong_, .bool p0.full_]), .lst rp0_3 68 (lst e_S_tree_Node p0.t_.Nodes)] F) (hc : canL (cfg.still 76) av = [.ptr (some (bp0, 0)), .agg (e_S_tree_Node p1)] := by kernel_rfl) : ∃ v h', Runs cfg g h 76 av v h' ∧ ∃ (r'1 : Option Nat), v = .int .i64 q0 ∧ HH g h' [.obj bp0 (.cells none 2 [.str u0.s_, .int .i64 u0.at_, .bool u0.extended_, rowV r'1 u1.length, .int .i64 u0.t_.Root, .int .i64 u0.groups_, .int .i64 u0.depth_, .int .i64 u0.wrong_, .bool u0.full_]), .lst r'1 68 (lst e_S_tree_Node u1)] F := by
 refine rq1 25 [.tmp 4] hc ?_
 clear hc
 unfold M_rex_walk_add_sPOR at hm
 refine bg 25 [(0, .ptr (some (bp0, 0))), (1, .agg (e_S_tree_Node p1))] fun fr H => ?_
 refine aw_sr 2 ?_
 obtain ⟨h1, e1, A⟩ := A.pu (.cells none 2 (e_S_tree_Node p1))
 refine at_ln 3 (.ptr (some (h.size, 0))) e1 H fun fr t H => ?_
 refine at_el 1 [] H (fun _ => id) fun fr H => ?_
 refine aw_sq ?_
 refine aw_sr 4 ?_
 refine at_gl 3 [] 10 1 8 A H fun fr t H => ?_
 refine at_nl id ?_
 refine aw_if 10 H hm (fun hb hm H => ?_) fun hb hm H => ?_
 ·refine aw_sr 1 ?_
  refine at_el 1 [(4, .int .i64 0)] H (fun _ => id) fun fr H => ?_
  refine aw_rt ?_
  obtain ⟨rfl, rfl, rfl⟩ := injC hm
  refine ⟨.inl rfl, .int .i64 0, rH H, ?_⟩
  replace A := A.k2 1 2
  exact ⟨rp0_3, rfl, A⟩
 refine aw_kn id ?_
 refine aw_sq ?_
 refine aw_dg 3 10 ?_
 refine at_g1 3 [(14, .ptr (some (bp0, 3)))] 15 _ _ H (fun fr => .of (s_ldA (by kernel_rfl) (A.ldA 0 rfl (o := 0) (n := 10) ⟨Nat.le_of_ble_eq_true rfl, rfl⟩))) fun fr t H => ?_
 replace A : HH g h1 [_, _, .obj h.size (.cells none 2 (e_S_tree_Node p1))] F := ((A.front 2 rfl).front 2 rfl)
 obtain ⟨⟨x1, x2, x3, x4⟩, hx, hm⟩ := bind_some hm
 obtain ⟨v1, h2, hr, r1, rfl, A1⟩ := ok_tree_Tree_Add_sQ3OR (av := [.ptr (some (bp0, 3)), .agg (e_S_tree_Node p1)]) hx (A.cut 2)
 replace A := A.g22 A1
 refine at_lc1 16 hr H fun fr t H => ?_
 refine at_el 5 [(5, .int .i64 x1), (6, .int .i64 x2)] H (fun _ => id) fun fr H => ?_
 refine aw_sq ?_
 obtain ⟨o1, ho, hm⟩ := bind_some hm
 refine aw_mono (Q' := fun e fr' h' => (∃ x5, e = .normal ∧ x5 = o1 ∧ Has fr' 25 [(5, .int .i64 x1)] ∧ HH g h' [.obj bp0 (.cells none 2 [.str x3.s_, .int .i64 x3.at_, .bool x3.extended_, rowV r1 x4.length, .int .i64 x3.t_.Root, .int .i64 x3.groups_, .int .i64 x3.depth_, .int .i64 x3.wrong_, .bool x5]), .lst r1 68 (lst e_S_tree_Node x4), .obj h.size (.cells none 2 (e_S_tree_Node p1))] F) ∨ False) ?_ ?_
 ·replace hm := ho
  clear ho
  refine aw_sr 2 ?_
  refine at_el 2 [(20, .bool (x2 != (0 : Int)))] H (fun _ => id) fun fr H => ?_
  refine aw_if 20 H hm (fun hb hm H => ?_) fun hb hm H => ?_
  ·refine aw_rg 4 ?_
   obtain ⟨h3, hx, A⟩ := A.s0 8 [.bool true] [_, _, _, _, _, _, _, _, _]
   refine at_gs 3 [] hx H fun fr t H => ?_
   refine at_nil ?_
   exact .inl ⟨_, rfl, injA hm, H.ls, A⟩
  refine aw_sk ?_
  exact .inl ⟨_, rfl, injA hm, H.ls, A⟩
 clear ho
 clear A
 intro e fr h4 hQ
 rcases hQ with ⟨x5, rfl, rfl, H, A⟩ | hF
 ·show AW _ _ _ _ _ _ _
  refine aw_sr 2 ?_
  refine at_el 2 [(4, .int .i64 x1)] H (fun _ => id) fun fr H => ?_
  refine aw_rt ?_
  obtain ⟨rfl, rfl, rfl⟩ := injC hm
  refine ⟨.inl rfl, .int .i64 x1, rH H, ?_⟩
  replace A := A.d2
  exact ⟨r1, rfl, A⟩
 exact hF.elim
noncomputable def M_rex_walk_one_sPOI (p0 : S_rex_walk) (p1 : Int) : Option (Int × S_rex_walk × (List S_tree_Node)) :=
 (M_class_Range p1 p1).bind fun x1 => (M_rex_walk_add_sPOR p0 (⟨(1 : Int), (0 : Int), (0 : Int), (0 : Int), (0 : Int), (0 : Int), x1⟩ : S_tree_Node)).bind fun (x2, x3, x4) => some (x2, (⟨x3.s_, x3.at_, x3.extended_, (⟨x4, x3.t_.Root⟩ : S_tree_Tree), x3.groups_, x3.depth_, x3.wrong_, x3.full_⟩ : S_rex_walk), x4)
theorem ok_rex_walk_one_sPOI {p0 p1 bp0 rp0_3 q0 u0 u1} (hm : M_rex_walk_one_sPOI p0 p1 = some (q0, u0, u1)) (A : HH g h [.obj bp0 (.cells none 2 [.str p0.s_, .int .i64 p0.at_, .bool p0.extended_, rowV rp0_3 p0.t_.Nodes.length, .int .i64 p0.t_.Root, .int .i64 p0.groups_, .int .i64 p0.depth_, .int .i64 p0.wrong_, .bool p0.full_]), .lst rp0_3 68 (lst e_S_tree_Node p0.t_.Nodes)] F) (hc : canL (cfg.still 75) av = [.ptr (some (bp0, 0)), .int .u8 p1] := by kernel_rfl) : ∃ v h', Runs cfg g h 75 av v h' ∧ ∃ (r'1 : Option Nat), v = .int .i64 q0 ∧ HH g h' [.obj bp0 (.cells none 2 [.str u0.s_, .int .i64 u0.at_, .bool u0.extended_, rowV r'1 u1.length, .int .i64 u0.t_.Root, .int .i64 u0.groups_, .int .i64 u0.depth_, .int .i64 u0.wrong_, .bool u0.full_]), .lst r'1 68 (lst e_S_tree_Node u1)] F := by
 refine rq1 11 [.tmp 4] hc ?_
 clear hc
 unfold M_rex_walk_one_sPOI at hm
 refine bg 11 [(0, .ptr (some (bp0, 0))), (1, .int .u8 p1)] fun fr H => ?_
 refine aw_sr 1 ?_
 refine at_es 1 [] 7 H (fun _ => id) fun fr H => ?_
 obtain ⟨x1, hx, hm⟩ := bind_some hm
 obtain ⟨v1, h1, hr, rfl, A1⟩ := ok_class_Range (av := [.int .u8 p1, .int .u8 p1]) hx (A.cut 0)
 replace A := A.g00 A1
 refine at_gc1 3 [(5, .ptr (some (bp0, 0)))] 8 hr H fun fr t H => ?_
 obtain ⟨⟨x2, x3, x4⟩, hx, hm⟩ := bind_some hm
 obtain ⟨v1, h2, hr, r1, rfl, A1⟩ := ok_rex_walk_add_sPOR (av := [.ptr (some (bp0, 0)), .agg [.int .i64 1, .int .i64 0, .int .i64 0, .int .i64 0, .int .i64 0, .int .i64 0, .int .u64 x1.w0, .int .u64 x1.w1, .int .u64 x1.w2, .int .u64 x1.w3]]) hx (A.cut 2)
 replace A := A.g22 A1
 refine at_gc1 1 [] 10 hr H fun fr t H => ?_
 refine at_el 1 [(4, .int .i64 x2)] H (fun _ => id) fun fr H => ?_
 refine aw_rt ?_
 obtain ⟨rfl, rfl, rfl⟩ := injC hm
 exact ⟨.inl rfl, _, rH H, _, rfl, A⟩
noncomputable def M_rex_walk_next_sPOS (p0 : S_rex_walk) (p1 : List UInt8) : Option (Bool × S_rex_walk) :=
 (M_rex_walk_sign_sPOS p0 p1).bind fun x1 => iteB (!x1) (some (false, p0)) ((iteB (!p0.extended_) (some (IntKind.i64.wrap ((IntKind.i64.wrap (p0.at_ + (p1.length : Int))) + (1 : Int)))) (some (IntKind.i64.wrap (p0.at_ + (p1.length : Int)))) : Option ((Int))).bind fun x2 => some (true, (⟨p0.s_, x2, p0.extended_, p0.t_, p0.groups_, p0.depth_, p0.wrong_, p0.full_⟩ : S_rex_walk)))
theorem ok_rex_walk_next_sPOS {p0 p1 bp0 rp0_3 q0 u0} (hm : M_rex_walk_next_sPOS p0 p1 = some (q0, u0)) (A : HH g h [.obj bp0 (.cells none 2 [.str p0.s_, .int .i64 p0.at_, .bool p0.extended_, rowV rp0_3 p0.t_.Nodes.length, .int .i64 p0.t_.Root, .int .i64 p0.groups_, .int .i64 p0.depth_, .int .i64 p0.wrong_, .bool p0.full_]), .lst rp0_3 68 (lst e_S_tree_Node p0.t_.Nodes)] F) (hc : canL (cfg.still 57) av = [.ptr (some (bp0, 0)), .str p1] := by kernel_rfl) : ∃ v h', Runs cfg g h 57 av v h' ∧ v = .bool q0 ∧ HH g h' [.obj bp0 (.cells none 2 [.str u0.s_, .int .i64 u0.at_, .bool u0.extended_, rowV rp0_3 p0.t_.Nodes.length, .int .i64 u0.t_.Root, .int .i64 u0.groups_, .int .i64 u0.depth_, .int .i64 u0.wrong_, .bool u0.full_]), .lst rp0_3 68 (lst e_S_tree_Node p0.t_.Nodes)] F := by
 refine rq1 30 [.tmp 4] hc ?_
 clear hc
 unfold M_rex_walk_next_sPOS at hm
 refine bg 30 [(0, .ptr (some (bp0, 0))), (1, .str p1)] fun fr H => ?_
 refine aw_sr 1 ?_
 refine at_el 1 [] H (fun _ => id) fun fr H => ?_
 refine aw_sq ?_
 refine aw_sr 4 ?_
 obtain ⟨x1, hx, hm⟩ := bind_some hm
 obtain ⟨v1, h1, hr, rfl, A1⟩ := ok_rex_walk_sign_sPOS (av := [.ptr (some (bp0, 0)), .str p1]) hx (A.cut 2)
 replace A := A.g22 A1
 refine at_gc1 2 [] 7 hr H fun fr t H => ?_
 refine at_el 1 [(8, .bool (!x1))] H (fun _ => id) fun fr H => ?_
 refine aw_if 8 H hm (fun hb hm H => ?_) fun hb hm H => ?_
 ·refine aw_sr 1 ?_
  refine at_el 1 [(4, .bool false)] H (fun _ => id) fun fr H => ?_
  refine aw_rt ?_
  obtain ⟨rfl, rfl⟩ := injB hm
  exact ⟨.inl rfl, _, rH H, rfl, A⟩
 refine aw_ks 10 id ?_
 refine at_gl 3 [(9, .ptr (some (bp0, 0)))] 12 0 1 A H fun fr t H => ?_
 obtain ⟨h2, hx, A⟩ := A.s0 1 [.int .i64 (IntKind.i64.wrap (p0.at_ + (p1.length : Int)))] [_, _, _, _, _, _, _, _, _]
 refine at_gs 5 [] hx H fun fr t H => ?_
 refine at_nl id ?_
 refine aw_sq ?_
 obtain ⟨o1, ho, hm⟩ := bind_some hm
 refine aw_mono (Q' := fun e fr' h' => (∃ x2, e = .normal ∧ x2 = o1 ∧ Has fr' 30 [] ∧ HH g h' [.obj bp0 (.cells none 2 [.str p0.s_, .int .i64 x2, .bool p0.extended_, rowV rp0_3 p0.t_.Nodes.length, .int .i64 p0.t_.Root, .int .i64 p0.groups_, .int .i64 p0.depth_, .int .i64 p0.wrong_, .bool p0.full_]), .lst rp0_3 68 (lst e_S_tree_Node p0.t_.Nodes)] F) ∨ False) ?_ ?_
 ·replace hm := ho
  clear ho
  refine aw_sr 5 ?_
  refine at_gl 3 [] 21 0 2 A H fun fr t H => ?_
  refine at_el 1 [(22, .bool (!p0.extended_))] H (fun _ => id) fun fr H => ?_
  refine aw_if 22 H hm (fun hb hm H => ?_) fun hb hm H => ?_
  ·refine aw_rg 8 ?_
   refine at_gl 3 [(23, .ptr (some (bp0, 0)))] 26 0 1 A H fun fr t H => ?_
   obtain ⟨h3, hx, A⟩ := A.s0 1 [.int .i64 (IntKind.i64.wrap ((IntKind.i64.wrap (p0.at_ + (p1.length : Int))) + (1 : Int)))] [_, _, _, _, _, _, _, _, _]
   refine at_gs 3 [] hx H fun fr t H => ?_
   refine at_nil ?_
   exact .inl ⟨_, rfl, injA hm, H.ls, A⟩
  refine aw_sk ?_
  exact .inl ⟨_, rfl, injA hm, H.ls, A⟩
 clear ho
 clear A
 intro e fr h4 hQ
 rcases hQ with ⟨x2, rfl, rfl, H, A⟩ | hF
 ·show AW _ _ _ _ _ _ _
  refine aw_sr 1 ?_
  refine at_el 1 [(4, .bool true)] H (fun _ => id) fun fr H => ?_
  refine aw_rt ?_
  obtain ⟨rfl, rfl⟩ := injB hm
  exact ⟨.inl rfl, _, rH H, rfl, A⟩
 exact hF.elim
noncomputable def M_rex_walk_repeats_sPOI_L0 (s : (List UInt8) × Int × Bool × Int × Int × Int × Int × Bool × (List S_tree_Node) × Int) : Option (((List UInt8) × Int × Bool × Int × Int × Int × Int × Bool × (List S_tree_Node) × Int) ⊕ (((List UInt8) × Int × Bool × Int × Int × Int × Int × Bool × (List S_tree_Node) × Int) ⊕ ((List UInt8) × Int × Bool × Int × Int × Int × Int × Bool × (List S_tree_Node) × Int))) :=
 match s with
 | (x1, x2, x3, x4, x5, x6, x7, x8, x9, x10) => (M_rex_walk_ok_sPO (⟨x1, x2, x3, (⟨x9, x4⟩ : S_tree_Tree), x5, x6, x7, x8⟩ : S_rex_walk)).bind fun x31 => iteB x31 (((subS x1 (some x2) none).bind fun x51 => (M_strings_HasPrefix x51 ([42] : List UInt8)).bind fun x52 => iteB x52 (some (.inl (x1, IntKind.i64.wrap (x2 + (1 : Int)), x3, x4, x5, x6, x7, x8, (0 : Int), (-1 : Int)))) ((M_rex_walk_next_sPOS (⟨x1, x2, x3, (⟨x9, x4⟩ : S_tree_Tree), x5, x6, x7, x8⟩ : S_rex_walk) ([43] : List UInt8)).bind fun (x53, x54) => iteB x53 (some (.inl (x54.s_, x54.at_, x54.extended_, x54.t_.Root, x54.groups_, x54.depth_, x54.wrong_, x54.full_, (1 : Int), (-1 : Int)))) ((M_rex_walk_next_sPOS (⟨x54.s_, x54.at_, x54.extended_, (⟨x9, x54.t_.Root⟩ : S_tree_Tree), x54.groups_, x54.depth_, x54.wrong_, x54.full_⟩ : S_rex_walk) ([63] : List UInt8)).bind fun (x55, x56) => iteB x55 (some (.inl (x56.s_, x56.at_, x56.extended_, x56.t_.Root, x56.groups_, x56.depth_, x56.wrong_, x56.full_, (0 : Int), (1 : Int)))) ((M_rex_walk_next_sPOS (⟨x56.s_, x56.at_, x56.extended_, (⟨x9, x56.t_.Root⟩ : S_tree_Tree), x56.groups_, x56.depth_, x56.wrong_, x56.full_⟩ : S_rex_walk) ([123] : List UInt8)).bind fun (x57, x58) => iteB x57 (none) (some (.inr (x58.s_, x58.at_, x58.extended_, x58.t_.Root, x58.groups_, x58.depth_, x58.wrong_, x58.full_, x10)))))) : Option (((List UInt8) × Int × Bool × Int × Int × Int × Int × Bool × Int × Int) ⊕ ((List UInt8) × Int × Bool × Int × Int × Int × Int × Bool × Int))).bind fun o2 => (match o2 with | .inl (x32, x33, x34, x35, x36, x37, x38, x39, x40, x41) => (M_rex_walk_add_sPOR (⟨x32, x33, x34, (⟨x9, x35⟩ : S_tree_Tree), x36, x37, x38, x39⟩ : S_rex_walk) (⟨(4 : Int), x10, (0 : Int), x40, x41, (0 : Int), (⟨(0 : Int), (0 : Int), (0 : Int), (0 : Int)⟩ : A4_uint64)⟩ : S_tree_Node)).bind fun (x59, x60, x61) => some (.inl (x60.s_, x60.at_, x60.extended_, x60.t_.Root, x60.groups_, x60.depth_, x60.wrong_, x60.full_, x61, x59)) | .inr (x42, x43, x44, x45, x46, x47, x48, x49, x50) => some (.inr (.inr (x42, x43, x44, x45, x46, x47, x48, x49, x9, x50))))) (some (.inr (.inl (x1, x2, x3, x4, x5, x6, x7, x8, x9, x10))))
noncomputable def M_rex_walk_repeats_sPOI (p0 : S_rex_walk) (p1 : Int) : Option (Int × S_rex_walk × (List S_tree_Node)) :=
 (loop (M_rex_walk_repeats_sPOI_L0) (p0.s_, p0.at_, p0.extended_, p0.t_.Root, p0.groups_, p0.depth_, p0.wrong_, p0.full_, p0.t_.Nodes, p1)).bind fun o1 => (match o1 with | .inl (x11, x12, x13, x14, x15, x16, x17, x18, x19, x20) => some (x20, (⟨x11, x12, x13, (⟨x19, x14⟩ : S_tree_Tree), x15, x16, x17, x18⟩ : S_rex_walk), x19) | .inr (x21, x22, x23, x24, x25, x26, x27, x28, x29, x30) => some (x30, (⟨x21, x22, x23, (⟨x29, x24⟩ : S_tree_Tree), x25, x26, x27, x28⟩ : S_rex_walk), x29))
theorem ok_rex_walk_repeats_sPOI {p0 p1 bp0 rp0_3 q0 u0 u1} (hm : M_rex_walk_repeats_sPOI p0 p1 = some (q0, u0, u1)) (A : HH g h [.obj bp0 (.cells none 2 [.str p0.s_, .int .i64 p0.at_, .bool p0.extended_, rowV rp0_3 p0.t_.Nodes.length, .int .i64 p0.t_.Root, .int .i64 p0.groups_, .int .i64 p0.depth_, .int .i64 p0.wrong_, .bool p0.full_]), .lst rp0_3 68 (lst e_S_tree_Node p0.t_.Nodes)] F) (hc : canL (cfg.still 74) av = [.ptr (some (bp0, 0)), .int .i64 p1] := by kernel_rfl) : ∃ v h', Runs cfg g h 74 av v h' ∧ ∃ (r'1 : Option Nat), v = .int .i64 q0 ∧ HH g h' [.obj bp0 (.cells none 2 [.str u0.s_, .int .i64 u0.at_, .bool u0.extended_, rowV r'1 u1.length, .int .i64 u0.t_.Root, .int .i64 u0.groups_, .int .i64 u0.depth_, .int .i64 u0.wrong_, .bool u0.full_]), .lst r'1 68 (lst e_S_tree_Node u1)] F := by
 refine rq1 62 [.tmp 4] hc ?_
 clear hc
 unfold M_rex_walk_repeats_sPOI at hm
 refine bg 62 [(0, .ptr (some (bp0, 0))), (1, .int .i64 p1)] fun fr H => ?_
 refine aw_sr 1 ?_
 refine at_el 1 [] H (fun _ => id) fun fr H => ?_
 refine aw_sq ?_
 refine aw_block (id := 0) (by kernel_rfl) ?_
 obtain ⟨o1, ho, hm⟩ := bind_some hm
 refine aw_mono (Q' := fun e fr' h' => (∃ x11 x12 x13 x14 x15 x16 x17 x18 x19 x20, e = .exit 0 ∧ .inl (x11, x12, x13, x14, x15, x16, x17, x18, x19, x20) = o1 ∧ ∃ r2, Has fr' 62 [(1, .int .i64 x20)] ∧ HH g h' [.obj bp0 (.cells none 2 [.str x11, .int .i64 x12, .bool x13, rowV r2 x19.length, .int .i64 x14, .int .i64 x15, .int .i64 x16, .int .i64 x17, .bool x18]), .lst r2 68 (lst e_S_tree_Node x19)] F) ∨ (∃ x21 x22 x23 x24 x25 x26 x27 x28 x29 x30, e = .ret ∧ .inr (x21, x22, x23, x24, x25, x26, x27, x28, x29, x30) = o1 ∧ ∃ r3, Has fr' 62 [(4, .int .i64 x30)] ∧ HH g h' [.obj bp0 (.cells none 2 [.str x21, .int .i64 x22, .bool x23, rowV r3 x29.length, .int .i64 x24, .int .i64 x25, .int .i64 x26, .int .i64 x27, .bool x28]), .lst r3 68 (lst e_S_tree_Node x29)] F) ∨ False) ?_ ?_
 ·refine aw_loop (by kernel_rfl) (fun (s : (List UInt8) × Int × Bool × Int × Int × Int × Int × Bool × (List S_tree_Node) × Int) fr' h' => ∃ x1 x2 x3 x4 x5 x6 x7 x8 x9 x10, (x1, x2, x3, x4, x5, x6, x7, x8, x9, x10) = s ∧ ∃ r1, Has fr' 62 [(0, .ptr (some (bp0, 0))), (1, .int .i64 x10)] ∧ HH g h' [.obj bp0 (.cells none 2 [.str x1, .int .i64 x2, .bool x3, rowV r1 x9.length, .int .i64 x4, .int .i64 x5, .int .i64 x6, .int .i64 x7, .bool x8]), .lst r1 68 (lst e_S_tree_Node x9)] F) ho ⟨_, _, _, _, _, _, _, _, _, _, rfl, rp0_3, H.ls, A⟩ ?_
  clear ho hm H A
  intro s q fr h1 hI hm
  obtain ⟨x1, x2, x3, x4, x5, x6, x7, x8, x9, x10, rfl, r1, H, A⟩ := hI
  unfold M_rex_walk_repeats_sPOI_L0 at hm
  refine aw_sq ?_
  refine aw_sr 2 ?_
  obtain ⟨x31, hx, hm⟩ := bind_some hm
  obtain ⟨v1, h2, hr, rfl, A1⟩ := ok_rex_walk_ok_sPO (av := [.ptr (some (bp0, 0))]) hx (A.cut 2)
  replace A := A.g22 A1
  refine at_gc1 1 [] 10 hr H fun fr t H => ?_
  refine at_nl id ?_
  refine aw_if 10 H hm (fun hb hm H => ?_) fun hb hm H => ?_
  ·refine aw_kn id ?_
   refine aw_block (id := 1) (by kernel_rfl) ?_
   refine aw_sr 5 ?_
   refine at_gl 3 [] 14 0 1 A H fun fr t H => ?_
   refine at_es 1 [(5, .int .i64 x2)] 2 H (fun _ => id) fun fr H => ?_
   refine at_el 2 [(6, .int .i64 0), (7, .int .i64 (-1))] H (fun _ => id) fun fr H => ?_
   refine aw_sq ?_
   obtain ⟨o2, ho, hm⟩ := bind_some hm
   refine aw_mono (Q' := fun e fr' h' => (∃ x32 x33 x34 x35 x36 x37 x38 x39 x40 x41, e = .normal ∧ .inl (x32, x33, x34, x35, x36, x37, x38, x39, x40, x41) = o2 ∧ Has fr' 62 [(0, .ptr (some (bp0, 0))), (1, .int .i64 x10), (6, .int .i64 x40), (7, .int .i64 x41)] ∧ HH g h' [.obj bp0 (.cells none 2 [.str x32, .int .i64 x33, .bool x34, rowV r1 x9.length, .int .i64 x35, .int .i64 x36, .int .i64 x37, .int .i64 x38, .bool x39]), .lst r1 68 (lst e_S_tree_Node x9)] F) ∨ (∃ x42 x43 x44 x45 x46 x47 x48 x49 x50, e = .ret ∧ .inr (x42, x43, x44, x45, x46, x47, x48, x49, x50) = o2 ∧ Has fr' 62 [(4, .int .i64 x50)] ∧ HH g h' [.obj bp0 (.cells none 2 [.str x42, .int .i64 x43, .bool x44, rowV r1 x9.length, .int .i64 x45, .int .i64 x46, .int .i64 x47, .int .i64 x48, .bool x49]), .lst r1 68 (lst e_S_tree_Node x9)] F) ∨ False) ?_ ?_
   ·replace hm := ho
    clear ho
    refine aw_block (id := 2) (by kernel_rfl) ?_
    refine aw_sq ?_
    refine aw_dg 5 11 ?_
    refine at_gl 3 [] 20 0 0 A H fun fr t H => ?_
    refine at_gl 3 [] 24 0 1 A H fun fr t H => ?_
    obtain ⟨x51, hx, hm⟩ := bind_some hm
    refine at_l1 25 (.str x51) h2 H (fun fr => .of (s_subS (k := .i64) (k' := .i64) (lo := (some x2)) (hi := none) (by kernel_rfl) hx)) fun fr t H => ?_
    obtain ⟨x52, hx, hm⟩ := bind_some hm
    obtain ⟨v1, h3, hr, rfl, A1⟩ := ok_strings_HasPrefix (av := [.str x51, .str ([42] : List UInt8)]) hx (A.cut 0)
    replace A := A.g00 A1
    refine at_lc1 26 hr H fun fr t H => ?_
    refine at_el 1 [(16, .bool x52)] H (fun _ => id) fun fr H => ?_
    refine aw_if 16 H hm (fun hb hm H => ?_) fun hb hm H => ?_
    ·refine aw_rg 8 ?_
     refine at_gl 3 [(27, .ptr (some (bp0, 0)))] 30 0 1 A H fun fr t H => ?_
     obtain ⟨h4, hx, A⟩ := A.s0 1 [.int .i64 (IntKind.i64.wrap (x2 + (1 : Int)))] [_, _, _, _, _, _, _, _, _]
     refine at_gs 3 [] hx H fun fr t H => ?_
     refine at_nil ?_
     exact .inl ⟨_, _, _, _, _, _, _, _, _, _, rfl, injA hm, H.ls, A⟩
    refine aw_sr 3 ?_
    obtain ⟨⟨x53, x54⟩, hx, hm⟩ := bind_some hm
    obtain ⟨v1, h5, hr, rfl, A1⟩ := ok_rex_walk_next_sPOS (av := [.ptr (some (bp0, 0)), .str ([43] : List UInt8)]) hx (A.cut 2)
    replace A := A.g22 A1
    refine at_gc1 1 [] 36 hr H fun fr t H => ?_
    refine at_el 1 [(34, .bool x53)] H (fun _ => id) fun fr H => ?_
    refine aw_if 34 H hm (fun hb hm H => ?_) fun hb hm H => ?_
    ·refine aw_rg 1 ?_
     refine at_se 1 [(0, .ptr (some (bp0, 0))), (1, .int .i64 x10), (6, .int .i64 1), (7, .int .i64 (-1))] H fun fr H => ?_
     refine at_nil ?_
     exact .inl ⟨_, _, _, _, _, _, _, _, _, _, rfl, injA hm, H.ls, A⟩
    refine aw_sr 3 ?_
    obtain ⟨⟨x55, x56⟩, hx, hm⟩ := bind_some hm
    obtain ⟨v1, h6, hr, rfl, A1⟩ := ok_rex_walk_next_sPOS (av := [.ptr (some (bp0, 0)), .str ([63] : List UInt8)]) hx (A.cut 2)
    replace A := A.g22 A1
    refine at_gc1 1 [] 39 hr H fun fr t H => ?_
    refine at_el 1 [(37, .bool x55)] H (fun _ => id) fun fr H => ?_
    refine aw_if 37 H hm (fun hb hm H => ?_) fun hb hm H => ?_
    ·refine aw_rg 1 ?_
     refine at_se 1 [(0, .ptr (some (bp0, 0))), (1, .int .i64 x10), (6, .int .i64 0), (7, .int .i64 1)] H fun fr H => ?_
     refine at_nil ?_
     exact .inl ⟨_, _, _, _, _, _, _, _, _, _, rfl, injA hm, H.ls, A⟩
    refine aw_sr 3 ?_
    obtain ⟨⟨x57, x58⟩, hx, hm⟩ := bind_some hm
    obtain ⟨v1, h7, hr, rfl, A1⟩ := ok_rex_walk_next_sPOS (av := [.ptr (some (bp0, 0)), .str ([123] : List UInt8)]) hx (A.cut 2)
    replace A := A.g22 A1
    refine at_gc1 1 [] 42 hr H fun fr t H => ?_
    refine at_el 1 [(40, .bool x57)] H (fun _ => id) fun fr H => ?_
    refine aw_if 40 H hm (fun hb hm H => ?_) fun hb hm H => ?_
    ·refine aw_sr 1 ?_
     refine at_es 1 [] 9 H (fun _ => id) fun fr H => ?_
     cases hm
    refine aw_sr 2 ?_
    refine at_el 2 [(4, .int .i64 x10)] H (fun _ => id) fun fr H => ?_
    refine aw_rt ?_
    exact .inr (.inl ⟨_, _, _, _, _, _, _, _, _, rfl, injA hm, H.ls, A⟩)
   clear ho
   clear A
   intro e fr h8 hQ
   rcases hQ with ⟨x32, x33, x34, x35, x36, x37, x38, x39, x40, x41, rfl, rfl, H, A⟩ | ⟨x42, x43, x44, x45, x46, x47, x48, x49, x50, rfl, rfl, H, A⟩ | hF
   ·show AW _ _ _ _ _ _ _
    refine aw_rg 7 ?_
    obtain ⟨⟨x59, x60, x61⟩, hx, hm⟩ := bind_some hm
    obtain ⟨v1, h9, hr, r4, rfl, A1⟩ := ok_rex_walk_add_sPOR (av := [.ptr (some (bp0, 0)), .agg [.int .i64 4, .int .i64 x10, .int .i64 0, .int .i64 x40, .int .i64 x41, .int .i64 0, .int .u64 0, .int .u64 0, .int .u64 0, .int .u64 0]]) hx (A.cut 2)
    replace A := A.g22 A1
    refine at_gc1 5 [] 60 hr H fun fr t H => ?_
    refine at_se 1 [(0, .ptr (some (bp0, 0))), (1, .int .i64 x59)] H fun fr H => ?_
    refine at_nil ?_
    exact nx hm ⟨_, _, _, _, _, _, _, _, _, _, rfl, _, H.ls, A⟩
   ·exact nr hm fun e => Or.inr (.inl ⟨_, _, _, _, _, _, _, _, _, _, rfl, e, _, H.ls, A⟩)
   exact hF.elim
  refine aw_exit (i := 0) (by kernel_rfl) ?_
  exact nr hm fun e => .inl ⟨_, _, _, _, _, _, _, _, _, _, rfl, e, _, H.ls, A⟩
 clear ho
 clear A
 intro e fr h10 hQ
 rcases hQ with ⟨x11, x12, x13, x14, x15, x16, x17, x18, x19, x20, rfl, rfl, r2, H, A⟩ | ⟨x21, x22, x23, x24, x25, x26, x27, x28, x29, x30, rfl, rfl, r3, H, A⟩ | hF
 ·show AW _ _ _ _ _ _ _
  refine aw_sr 2 ?_
  refine at_el 2 [(4, .int .i64 x20)] H (fun _ => id) fun fr H => ?_
  refine aw_rt ?_
  obtain ⟨rfl, rfl, rfl⟩ := injC hm
  exact ⟨.inl rfl, _, rH H, _, rfl, A⟩
 ·obtain ⟨rfl, rfl, rfl⟩ := injC hm
  exact ⟨.inl rfl, _, rH H, _, rfl, A⟩
 exact hF.elim
noncomputable def M_class_Set_Not_L0 (s : Int × Int × Int × Int × Int) : Option ((Int × Int × Int × Int × Int) ⊕ ((Int × Int × Int × Int))) :=
 match s with
 | (x1, x2, x3, x4, x5) => iteB (decide (x5 < (4 : Int))) ((ixV ([x1, x2, x3, x4] : List Int) x5).bind fun x10 => (ixV ([x1, x2, x3, x4] : List Int) x5).bind fun x11 => some (.inl ((bif x5 == 0 then bNot .u64 x10 else x1), (bif (x5 - 1) == 0 then bNot .u64 x10 else x2), (bif ((x5 - 1) - 1) == 0 then bNot .u64 x10 else x3), (bif (((x5 - 1) - 1) - 1) == 0 then bNot .u64 x10 else x4), IntKind.i64.wrap (x5 + (1 : Int))))) (some (.inr (x1, x2, x3, x4)))
noncomputable def M_class_Set_Not (p0 : A4_uint64) : Option (A4_uint64) :=
 (loop (M_class_Set_Not_L0) (p0.w0, p0.w1, p0.w2, p0.w3, (0 : Int))).bind fun (x6, x7, x8, x9) => some (⟨x6, x7, x8, x9⟩ : A4_uint64)
theorem ok_class_Set_Not {p0 q0} (hm : M_class_Set_Not p0 = some q0) (A : HH g h [] F) (hc : canL (cfg.still 103) av = [.agg [.int .u64 p0.w0, .int .u64 p0.w1, .int .u64 p0.w2, .int .u64 p0.w3]] := by kernel_rfl) : ∃ v h', Runs cfg g h 103 av v h' ∧ v = .agg [.int .u64 q0.w0, .int .u64 q0.w1, .int .u64 q0.w2, .int .u64 q0.w3] ∧ HH g h' [] F := by
 refine rq1 15 [.cell 2 66] hc ?_
 clear hc
 unfold M_class_Set_Not at hm
 refine bg 15 [(0, .agg [.int .u64 p0.w0, .int .u64 p0.w1, .int .u64 p0.w2, .int .u64 p0.w3])] fun fr H => ?_
 refine aw_sr 2 ?_
 obtain ⟨h1, e1, A⟩ := A.pu (.cells none 2 [.int .u64 p0.w0, .int .u64 p0.w1, .int .u64 p0.w2, .int .u64 p0.w3])
 refine at_ln 1 (.ptr (some (h.size, 0))) e1 H fun fr t H => ?_
 obtain ⟨h2, e2, A⟩ := A.pu (.cells none 2 [.int .u64 0, .int .u64 0, .int .u64 0, .int .u64 0])
 refine at_ln 2 (.ptr (some (h1.size, 0))) e2 H fun fr t H => ?_
 refine at_nl id ?_
 refine aw_sq ?_
 refine aw_sr 1 ?_
 refine at_el 1 [(4, .int .i64 0)] H (fun _ => id) fun fr H => ?_
 refine aw_block (id := 0) (by kernel_rfl) ?_
 obtain ⟨o1, ho, hm⟩ := bind_some hm
 refine aw_mono (Q' := fun e fr' h' => (∃ x6 x7 x8 x9, e = .exit 0 ∧ (x6, x7, x8, x9) = o1 ∧ Has fr' 15 [(1, .ptr (some (h.size, 0))), (2, .ptr (some (h1.size, 0)))] ∧ HH g h' [.obj h1.size (.cells none 2 [.int .u64 0, .int .u64 0, .int .u64 0, .int .u64 0]), .obj h.size (.cells none 2 [.int .u64 x6, .int .u64 x7, .int .u64 x8, .int .u64 x9])] F) ∨ False) ?_ ?_
 ·refine aw_loop (by kernel_rfl) (fun (s : Int × Int × Int × Int × Int) fr' h' => ∃ x1 x2 x3 x4 x5, (x1, x2, x3, x4, x5) = s ∧ Has fr' 15 [(1, .ptr (some (h.size, 0))), (2, .ptr (some (h1.size, 0))), (4, .int .i64 x5)] ∧ HH g h' [.obj h1.size (.cells none 2 [.int .u64 0, .int .u64 0, .int .u64 0, .int .u64 0]), .obj h.size (.cells none 2 [.int .u64 x1, .int .u64 x2, .int .u64 x3, .int .u64 x4])] F) ho ⟨_, _, _, _, _, rfl, H.ls, A⟩ ?_
  clear ho hm H A
  intro s q fr h3 hI hm
  obtain ⟨x1, x2, x3, x4, x5, rfl, H, A⟩ := hI
  unfold M_class_Set_Not_L0 at hm
  refine aw_sr 1 ?_
  refine at_el 1 [(5, .bool (decide (x5 < (4 : Int))))] H (fun _ => id) fun fr H => ?_
  refine aw_sq ?_
  refine aw_if 5 H hm (fun hb hm H => ?_) fun hb hm H => ?_
  ·refine aw_kn id ?_
   refine aw_sq ?_
   refine aw_block (id := 1) (by kernel_rfl) ?_
   refine aw_sr 2 ?_
   refine at_er 2 [(3, .int .i64 x5)] 7 H (fun _ => id) fun fr H => ?_
   obtain ⟨x10, hq1, hm⟩ := bind_some hm
   refine at_g1 2 [(7, .int .i64 x5)] 9 (.ptr (some (h.size, 0 + x5.toNat * 1))) h3 H (fun fr => .of (s_ixA (by kernel_rfl) (ixA_of hq1 (h.size, 0) 1 rfl))) fun fr t H => ?_
   refine at_l1 10 _ _ H (fun fr => .of (s_ld (by kernel_rfl) (HH.ldW A 1 rfl 0 (fun w : Int => .int .u64 w) [x1, x2, x3, x4] rfl hq1))) fun fr t H => ?_
   obtain ⟨x11, hq2, hm⟩ := bind_some hm
   refine at_g1 1 [(11, .int .u64 (bNot .u64 x10))] 12 (.ptr (some (h.size, 0 + x5.toNat * 1))) h3 H (fun fr => .of (s_ixA (by kernel_rfl) (ixA_of hq2 (h.size, 0) 1 rfl))) fun fr t H => ?_
   obtain ⟨h4, hx, A1⟩ := HH.stW A 1 rfl 0 (fun w : Int => .int .u64 w) [x1, x2, x3, x4] (bNot .u64 x10) (ds := [.int .u64 (bif x5 == 0 then bNot .u64 x10 else x1), .int .u64 (bif (x5 - 1) == 0 then bNot .u64 x10 else x2), .int .u64 (bif ((x5 - 1) - 1) == 0 then bNot .u64 x10 else x3), .int .u64 (bif (((x5 - 1) - 1) - 1) == 0 then bNot .u64 x10 else x4)]) rfl hq2 rfl rfl
   replace A : HH g h4 [_, .obj h.size (.cells none 2 [.int .u64 (bif x5 == 0 then bNot .u64 x10 else x1), .int .u64 (bif (x5 - 1) == 0 then bNot .u64 x10 else x2), .int .u64 (bif ((x5 - 1) - 1) == 0 then bNot .u64 x10 else x3), .int .u64 (bif (((x5 - 1) - 1) - 1) == 0 then bNot .u64 x10 else x4)])] F := A1
   refine at_ls hx H fun fr t H => ?_
   refine at_nr 2 id ?_
   refine at_se 2 [(1, .ptr (some (h.size, 0))), (2, .ptr (some (h1.size, 0))), (4, .int .i64 (IntKind.i64.wrap (x5 + (1 : Int))))] H fun fr H => ?_
   refine at_nil ?_
   exact nx hm ⟨_, _, _, _, _, rfl, H.ls, A⟩
  refine aw_exit (i := 0) (by kernel_rfl) ?_
  exact nr hm fun e => .inl ⟨_, _, _, _, rfl, e, H.ls, A⟩
 clear ho
 clear A
 intro e fr h5 hQ
 rcases hQ with ⟨x6, x7, x8, x9, rfl, rfl, H, A⟩ | hF
 ·show AW _ _ _ _ _ _ _
  refine aw_sr 2 ?_
  refine at_l1 14 _ _ H (fun fr => .of (s_ldA (by kernel_rfl) (A.ldA 1 rfl (o := 0) (n := 4) ⟨Nat.le_of_ble_eq_true rfl, rfl⟩))) fun fr t H => ?_
  obtain ⟨h6, hx, A⟩ := A.s0 0 [.int .u64 x6, .int .u64 x7, .int .u64 x8, .int .u64 x9] [_, _, _, _]
  refine at_lS hx H fun fr t H => ?_
  refine at_nl id ?_
  refine aw_rt ?_
  obtain rfl := injA hm
  refine ⟨.inl rfl, .agg [.int .u64 x6, .int .u64 x7, .int .u64 x8, .int .u64 x9], resL_one (.cell (rT H) (load_ldA (by kernel_rfl) (by kernel_rfl) (A.la 0 0 4)) .nil), ?_⟩
  replace A := A.d0
  exact ⟨rfl, A⟩
 exact hF.elim
noncomputable def M_class_All : Option (A4_uint64) :=
 (M_class_Set_Not (⟨(0 : Int), (0 : Int), (0 : Int), (0 : Int)⟩ : A4_uint64)).bind fun x1 => some x1
theorem ok_class_All {q0} (hm : M_class_All = some q0) (A : HH g h [] F) (hc : canL (cfg.still 93) av = [] := by kernel_rfl) : ∃ v h', Runs cfg g h 93 av v h' ∧ v = .agg [.int .u64 q0.w0, .int .u64 q0.w1, .int .u64 q0.w2, .int .u64 q0.w3] ∧ HH g h' [] F := by
 refine rq1 3 [.cell 0 66] hc ?_
 clear hc
 unfold M_class_All at hm
 refine bg 3 [] fun fr H => ?_
 refine aw_sr 1 ?_
 obtain ⟨h1, e1, A⟩ := A.pu (.cells none 2 [.int .u64 0, .int .u64 0, .int .u64 0, .int .u64 0])
 refine at_ln 0 (.ptr (some (h.size, 0))) e1 H fun fr t H => ?_
 refine at_ns 3 id ?_
 obtain ⟨x1, hx, hm⟩ := bind_some hm
 obtain ⟨v1, h2, hr, rfl, A1⟩ := ok_class_Set_Not (av := [.agg [.int .u64 0, .int .u64 0, .int .u64 0, .int .u64 0]]) hx (A.cut 0)
 replace A : HH g h2 [.obj h.size (.cells none 2 [.int .u64 (0 : Int), .int .u64 (0 : Int), .int .u64 (0 : Int), .int .u64 (0 : Int)])] F := A.glue0 (n := 0) A1
 refine at_gc1 1 [] 2 hr H fun fr t H => ?_
 obtain ⟨h3, hx, A⟩ := A.s0 0 [.int .u64 x1.w0, .int .u64 x1.w1, .int .u64 x1.w2, .int .u64 x1.w3] [_, _, _, _]
 refine at_lS hx H fun fr t H => ?_
 refine at_nl id ?_
 refine aw_rt ?_
 obtain rfl := injA hm
 refine ⟨.inl rfl, .agg [.int .u64 x1.w0, .int .u64 x1.w1, .int .u64 x1.w2, .int .u64 x1.w3], resL_one (.cell (rT H) (load_ldA (by kernel_rfl) (by kernel_rfl) (A.la 0 0 4)) .nil), ?_⟩
 replace A := A.d0
 exact ⟨rfl, A⟩
noncomputable def M_rex_walk_back_sPO (p0 : S_rex_walk) : Option (Bool) :=
 (M_rex_walk_closes_sPO (⟨p0.s_, IntKind.i64.wrap (p0.at_ + (1 : Int)), p0.extended_, p0.t_, p0.groups_, p0.depth_, p0.wrong_, p0.full_⟩ : S_rex_walk)).bind fun x1 => some x1
theorem ok_rex_walk_back_sPO {p0 bp0 rp0_3 q0} (hm : M_rex_walk_back_sPO p0 = some q0) (A : HH g h [.obj bp0 (.cells none 2 [.str p0.s_, .int .i64 p0.at_, .bool p0.extended_, rowV rp0_3 p0.t_.Nodes.length, .int .i64 p0.t_.Root, .int .i64 p0.groups_, .int .i64 p0.depth_, .int .i64 p0.wrong_, .bool p0.full_]), .lst rp0_3 68 (lst e_S_tree_Node p0.t_.Nodes)] F) (hc : canL (cfg.still 94) av = [.ptr (some (bp0, 0))] := by kernel_rfl) : ∃ v h', Runs cfg g h 94 av v h' ∧ v = .bool q0 ∧ HH g h' [.obj bp0 (.cells none 2 [.str p0.s_, .int .i64 p0.at_, .bool p0.extended_, rowV rp0_3 p0.t_.Nodes.length, .int .i64 p0.t_.Root, .int .i64 p0.groups_, .int .i64 p0.depth_, .int .i64 p0.wrong_, .bool p0.full_]), .lst rp0_3 68 (lst e_S_tree_Node p0.t_.Nodes)] F := by
 refine rq1 12 [.tmp 2] hc ?_
 clear hc
 unfold M_rex_walk_back_sPO at hm
 refine bg 12 [(0, .ptr (some (bp0, 0)))] fun fr H => ?_
 refine aw_sr 1 ?_
 refine at_es 1 [] 5 H (fun _ => id) fun fr H => ?_
 refine at_g1 2 [] 6 _ _ H (fun fr => .of (s_ldA (by kernel_rfl) (A.ldA 0 rfl (o := 0) (n := 9) ⟨Nat.le_of_ble_eq_true rfl, rfl⟩))) fun fr t H => ?_
 obtain ⟨h1, e1, A⟩ := A.pu (.cells none 2 [.str ([] : List UInt8), .int .i64 0, .bool false, .slice none 0, .int .i64 0, .int .i64 0, .int .i64 0, .int .i64 0, .bool false])
 refine at_ln 3 (.ptr (some (h.size, 0))) e1 H fun fr t H => ?_
 obtain ⟨h2, hx, A⟩ := A.s0 0 [.str p0.s_, .int .i64 p0.at_, .bool p0.extended_, rowV rp0_3 p0.t_.Nodes.length, .int .i64 p0.t_.Root, .int .i64 p0.groups_, .int .i64 p0.depth_, .int .i64 p0.wrong_, .bool p0.full_] [_, _, _, _, _, _, _, _, _]
 refine at_lS hx H fun fr t H => ?_
 refine at_ns 5 id ?_
 refine at_gl 1 [] 8 0 1 A H fun fr t H => ?_
 obtain ⟨h3, hx, A⟩ := A.s0 1 [.int .i64 (IntKind.i64.wrap (p0.at_ + (1 : Int)))] [_, _, _, _, _, _, _, _, _]
 refine at_gs 2 [] hx H fun fr t H => ?_
 refine at_ns 2 id ?_
 replace A := A.k3 0 2 1
 obtain ⟨x1, hx, hm⟩ := bind_some hm
 obtain ⟨v1, h4, hr, rfl, A1⟩ := ok_rex_walk_closes_sPO (av := [.ptr (some (h.size, 0))]) hx (A.cut 2)
 replace A := A.g22 A1
 refine at_lc1 11 hr H fun fr t H => ?_
 refine at_el 1 [(2, .bool x1)] H (fun _ => id) fun fr H => ?_
 refine aw_rt ?_
 obtain rfl := injA hm
 refine ⟨.inl rfl, .bool x1, rH H, ?_⟩
 replace A := A.k2 2 1
 exact ⟨rfl, A⟩
noncomputable def M_rex_walk_atom_sPO (p0 : S_rex_walk) : Option (Int × S_rex_walk × (List S_tree_Node)) :=
 (ixS p0.s_ p0.at_).bind fun x1 => iteB (x1 == (91 : Int)) (none) (iteB (x1 == (46 : Int)) ((M_class_All).bind fun x2 => (M_rex_walk_add_sPOR (⟨p0.s_, IntKind.i64.wrap (p0.at_ + (1 : Int)), p0.extended_, p0.t_, p0.groups_, p0.depth_, p0.wrong_, p0.full_⟩ : S_rex_walk) (⟨(1 : Int), (0 : Int), (0 : Int), (0 : Int), (0 : Int), (0 : Int), x2⟩ : S_tree_Node)).bind fun (x3, x4, x5) => some (x3, (⟨x4.s_, x4.at_, x4.extended_, (⟨x5, x4.t_.Root⟩ : S_tree_Tree), x4.groups_, x4.depth_, x4.wrong_, x4.full_⟩ : S_rex_walk), x5)) ((iteB (x1 == (36 : Int)) ((iteB p0.extended_ (some true) ((M_rex_walk_back_sPO p0).bind fun x8 => some x8) : Option (Bool)).bind fun x7 => some x7) (some false) : Option (Bool)).bind fun x6 => iteB x6 ((M_rex_walk_add_sPOR (⟨p0.s_, IntKind.i64.wrap (p0.at_ + (1 : Int)), p0.extended_, p0.t_, p0.groups_, p0.depth_, p0.wrong_, p0.full_⟩ : S_rex_walk) (⟨(7 : Int), (0 : Int), (0 : Int), (0 : Int), (0 : Int), (0 : Int), (⟨(0 : Int), (0 : Int), (0 : Int), (0 : Int)⟩ : A4_uint64)⟩ : S_tree_Node)).bind fun (x9, x10, x11) => some (x9, (⟨x10.s_, x10.at_, x10.extended_, (⟨x11, x10.t_.Root⟩ : S_tree_Tree), x10.groups_, x10.depth_, x10.wrong_, x10.full_⟩ : S_rex_walk), x11)) (iteB ((x1 == (94 : Int)) && p0.extended_) ((M_rex_walk_add_sPOR (⟨p0.s_, IntKind.i64.wrap (p0.at_ + (1 : Int)), p0.extended_, p0.t_, p0.groups_, p0.depth_, p0.wrong_, p0.full_⟩ : S_rex_walk) (⟨(6 : Int), (0 : Int), (0 : Int), (0 : Int), (0 : Int), (0 : Int), (⟨(0 : Int), (0 : Int), (0 : Int), (0 : Int)⟩ : A4_uint64)⟩ : S_tree_Node)).bind fun (x12, x13, x14) => some (x12, (⟨x13.s_, x13.at_, x13.extended_, (⟨x14, x13.t_.Root⟩ : S_tree_Tree), x13.groups_, x13.depth_, x13.wrong_, x13.full_⟩ : S_rex_walk), x14)) ((M_rex_walk_next_sPOS p0 ([40] : List UInt8)).bind fun (x15, x16) => iteB x15 (none) (iteB (x1 == (92 : Int)) (none) ((iteB x16.extended_ (((iteB (x1 == (42 : Int)) (some true) (some (x1 == (43 : Int))) : Option ((Bool))).bind fun x18 => iteB x18 (some (.inl ())) ((iteB (x1 == (63 : Int)) (some true) (some (x1 == (123 : Int))) : Option ((Bool))).bind fun x19 => iteB x19 (some (.inl ())) ((iteB (x1 == (124 : Int)) (some true) (some (x1 == (41 : Int))) : Option ((Bool))).bind fun x20 => iteB x20 (some (.inl ())) (some (.inr ())))) : Option ((Unit) ⊕ (Unit))).bind fun o2 => (match o2 with | .inl _ => some (.inr (0 : Int)) | .inr _ => some (.inl ()))) (some (.inl ())) : Option ((Unit) ⊕ (Int))).bind fun o1 => (match o1 with | .inl _ => (M_rex_walk_one_sPOI (⟨x16.s_, IntKind.i64.wrap (x16.at_ + (1 : Int)), x16.extended_, (⟨p0.t_.Nodes, x16.t_.Root⟩ : S_tree_Tree), x16.groups_, x16.depth_, x16.wrong_, x16.full_⟩ : S_rex_walk) x1).bind fun (x21, x22, x23) => some (x21, (⟨x22.s_, x22.at_, x22.extended_, (⟨x23, x22.t_.Root⟩ : S_tree_Tree), x22.groups_, x22.depth_, x22.wrong_, x22.full_⟩ : S_rex_walk), x23) | .inr x17 => some (x17, (⟨x16.s_, x16.at_, x16.extended_, (⟨p0.t_.Nodes, x16.t_.Root⟩ : S_tree_Tree), x16.groups_, x16.depth_, x16.wrong_, x16.full_⟩ : S_rex_walk), p0.t_.Nodes))))))))
theorem ok_rex_walk_atom_sPO {p0 bp0 rp0_3 q0 u0 u1} (hm : M_rex_walk_atom_sPO p0 = some (q0, u0, u1)) (A : HH g h [.obj bp0 (.cells none 2 [.str p0.s_, .int .i64 p0.at_, .bool p0.extended_, rowV rp0_3 p0.t_.Nodes.length, .int .i64 p0.t_.Root, .int .i64 p0.groups_, .int .i64 p0.depth_, .int .i64 p0.wrong_, .bool p0.full_]), .lst rp0_3 68 (lst e_S_tree_Node p0.t_.Nodes)] F) (hc : canL (cfg.still 77) av = [.ptr (some (bp0, 0))] := by kernel_rfl) : ∃ v h', Runs cfg g h 77 av v h' ∧ ∃ (r'1 : Option Nat), v = .int .i64 q0 ∧ HH g h' [.obj bp0 (.cells none 2 [.str u0.s_, .int .i64 u0.at_, .bool u0.extended_, rowV r'1 u1.length, .int .i64 u0.t_.Root, .int .i64 u0.groups_, .int .i64 u0.depth_, .int .i64 u0.wrong_, .bool u0.full_]), .lst r'1 68 (lst e_S_tree_Node u1)] F := by
 refine rq1 138 [.tmp 2] hc ?_
 clear hc
 unfold M_rex_walk_atom_sPO at hm
 refine bg 138 [(0, .ptr (some (bp0, 0)))] fun fr H => ?_
 refine aw_sr 1 ?_
 refine at_el 1 [] H (fun _ => id) fun fr H => ?_
 refine aw_sq ?_
 refine aw_dg 1 10 ?_
 refine at_gl 3 [] 10 0 0 A H fun fr t H => ?_
 refine at_gl 3 [] 14 0 1 A H fun fr t H => ?_
 obtain ⟨x1, hx, hm⟩ := bind_some hm
 refine at_l1 15 (.int .u8 x1) h H (fun fr => .of (s_ixS (by kernel_rfl) hx)) fun fr t H => ?_
 refine at_el 1 [(3, .int .u8 x1)] H (fun _ => id) fun fr H => ?_
 refine aw_sq ?_
 refine aw_block (id := 0) (by kernel_rfl) ?_
 refine aw_sr 3 ?_
 refine at_el 3 [(16, .bool (x1 == (91 : Int)))] H (fun _ => id) fun fr H => ?_
 refine aw_if 16 H hm (fun hb hm H => ?_) fun hb hm H => ?_
 ·refine aw_sq ?_
  refine aw_dw 3 17 [(0, []), (1, []), (2, []), (3, []), (4, []), (5, []), (6, []), (7, []), (13, []), (8, [13]), (9, []), (10, []), (11, []), (12, []), (14, []), (15, []), (16, [])] ?_
  refine at_sl 3 [(22, .ptr (some (bp0, 0)))] H fun fr H => ?_
  refine at_t1 23 (.str p0.s_) h [(3, bp0)] (g.prot) H (fun fr => .of (s_ld (by kernel_rfl) (A.l1 0 0))) (fun fr H => ?_)
  refine at_sl 3 [(26, .ptr (some (bp0, 1)))] H fun fr H => ?_
  refine at_t1 27 (.int .i64 p0.at_) h [(7, bp0), (3, bp0)] (g.prot) H (fun fr => .of (s_ld (by kernel_rfl) (A.l1 0 1))) (fun fr H => ?_)
  obtain ⟨h1, e1, A⟩ := A.pu (.cells none 2 [.int .u64 0, .int .u64 0, .int .u64 0, .int .u64 0])
  refine at_t1 4 (.ptr (some (h.size, 0))) h1 [(13, h.size), (7, bp0), (3, bp0)] (g.prot) H (fun fr => .of (s_n' (by kernel_rfl) (congrArg some e1.symm))) (fun fr H => ?_)
  cases hm
 refine aw_sr 3 ?_
 refine at_el 3 [(48, .bool (x1 == (46 : Int)))] H (fun _ => id) fun fr H => ?_
 refine aw_if 48 H hm (fun hb hm H => ?_) fun hb hm H => ?_
 ·refine aw_sr 8 ?_
  refine at_gl 3 [(51, .ptr (some (bp0, 0)))] 54 0 1 A H fun fr t H => ?_
  obtain ⟨h2, hx, A⟩ := A.s0 1 [.int .i64 (IntKind.i64.wrap (p0.at_ + (1 : Int)))] [_, _, _, _, _, _, _, _, _]
  refine at_gs 3 [] hx H fun fr t H => ?_
  refine at_ns 5 id ?_
  obtain ⟨x2, hx, hm⟩ := bind_some hm
  obtain ⟨v1, h3, hr, rfl, A1⟩ := ok_class_All (av := []) hx (A.cut 0)
  replace A := A.g00 A1
  refine at_gc1 1 [(58, .ptr (some (bp0, 0)))] 59 hr H fun fr t H => ?_
  obtain ⟨⟨x3, x4, x5⟩, hx, hm⟩ := bind_some hm
  obtain ⟨v1, h4, hr, r1, rfl, A1⟩ := ok_rex_walk_add_sPOR (av := [.ptr (some (bp0, 0)), .agg [.int .i64 1, .int .i64 0, .int .i64 0, .int .i64 0, .int .i64 0, .int .i64 0, .int .u64 x2.w0, .int .u64 x2.w1, .int .u64 x2.w2, .int .u64 x2.w3]]) hx (A.cut 2)
  replace A := A.g22 A1
  refine at_gc1 1 [] 61 hr H fun fr t H => ?_
  refine at_el 1 [(2, .int .i64 x3)] H (fun _ => id) fun fr H => ?_
  refine aw_rt ?_
  obtain ⟨rfl, rfl, rfl⟩ := injC hm
  exact ⟨.inl rfl, _, rH H, _, rfl, A⟩
 refine aw_sr 13 ?_
 refine at_sl 3 [(65, .bool (x1 == (36 : Int)))] H fun fr H => ?_
 obtain ⟨x6, ho, hm⟩ := bind_some hm
 refine at_cl 9 (fun fr' h' => Has fr' 138 [(0, .ptr (some (bp0, 0))), (3, .int .u8 x1), (74, .bool x6)] ∧ HH g h' [.obj bp0 (.cells none 2 [.str p0.s_, .int .i64 p0.at_, .bool p0.extended_, rowV rp0_3 p0.t_.Nodes.length, .int .i64 p0.t_.Root, .int .i64 p0.groups_, .int .i64 p0.depth_, .int .i64 p0.wrong_, .bool p0.full_]), .lst rp0_3 68 (lst e_S_tree_Node p0.t_.Nodes)] F) ?_ ?_
 ·rcases iteB_some ho with ⟨hb, hm⟩ | ⟨hb, hm⟩
  ·replace H := H.kn 65 hb
   refine at_gl 3 [] 69 0 2 A H fun fr t H => ?_
   refine at_sl 1 [(70, .bool p0.extended_)] H fun fr H => ?_
   obtain ⟨x7, ho, hm⟩ := bind_some hm
   refine at_cl 3 (fun fr' h' => Has fr' 138 [(0, .ptr (some (bp0, 0))), (3, .int .u8 x1), (65, .bool true), (73, .bool x7)] ∧ HH g h' [.obj bp0 (.cells none 2 [.str p0.s_, .int .i64 p0.at_, .bool p0.extended_, rowV rp0_3 p0.t_.Nodes.length, .int .i64 p0.t_.Root, .int .i64 p0.groups_, .int .i64 p0.depth_, .int .i64 p0.wrong_, .bool p0.full_]), .lst rp0_3 68 (lst e_S_tree_Node p0.t_.Nodes)] F) ?_ ?_
   ·rcases iteB_some ho with ⟨hb, hm⟩ | ⟨hb, hm⟩
    ·replace H := H.kn 70 hb
     refine at_sl 3 [(73, .bool true)] H fun fr H => ?_
     obtain rfl := injA hm
     exact at_nil ⟨H.ls, A⟩
    replace H := H.kn 70 hb
    obtain ⟨x8, hx, hm⟩ := bind_some hm
    obtain ⟨v1, h7, hr, rfl, A1⟩ := ok_rex_walk_back_sPO (av := [.ptr (some (bp0, 0))]) hx (A.cut 2)
    replace A := A.g22 A1
    refine at_gc1 1 [] 72 hr H fun fr t H => ?_
    refine at_sl 1 [(73, .bool x8)] H fun fr H => ?_
    obtain rfl := injA hm
    exact at_nil ⟨H.ls, A⟩
   clear A
   intro t fr h6 hK
   obtain ⟨H, A⟩ := hK
   refine at_sl 1 [(74, .bool x7)] H fun fr H => ?_
   obtain rfl := injA hm
   exact at_nil ⟨H.ls, A⟩
  replace H := H.kn 65 hb
  refine at_sl 9 [(74, .bool false)] H fun fr H => ?_
  obtain rfl := injA hm
  exact at_nil ⟨H.ls, A⟩
 clear A
 intro t fr h5 hK
 obtain ⟨H, A⟩ := hK
 refine at_el 1 [(62, .bool x6)] H (fun _ => id) fun fr H => ?_
 refine aw_if 62 H hm (fun hb hm H => ?_) fun hb hm H => ?_
 ·refine aw_sr 8 ?_
  refine at_gl 3 [(75, .ptr (some (bp0, 0)))] 78 0 1 A H fun fr t H => ?_
  obtain ⟨h8, hx, A⟩ := A.s0 1 [.int .i64 (IntKind.i64.wrap (p0.at_ + (1 : Int)))] [_, _, _, _, _, _, _, _, _]
  refine at_gs 3 [] hx H fun fr t H => ?_
  refine at_ns 4 id ?_
  obtain ⟨⟨x9, x10, x11⟩, hx, hm⟩ := bind_some hm
  obtain ⟨v1, h9, hr, r2, rfl, A1⟩ := ok_rex_walk_add_sPOR (av := [.ptr (some (bp0, 0)), .agg [.int .i64 7, .int .i64 0, .int .i64 0, .int .i64 0, .int .i64 0, .int .i64 0, .int .u64 0, .int .u64 0, .int .u64 0, .int .u64 0]]) hx (A.cut 2)
  replace A := A.g22 A1
  refine at_gc1 2 [] 84 hr H fun fr t H => ?_
  refine at_el 1 [(2, .int .i64 x9)] H (fun _ => id) fun fr H => ?_
  refine aw_rt ?_
  obtain ⟨rfl, rfl, rfl⟩ := injC hm
  exact ⟨.inl rfl, _, rH H, _, rfl, A⟩
 refine aw_sr 9 ?_
 refine at_sl 3 [(88, .bool (x1 == (94 : Int)))] H fun fr H => ?_
 refine at_cl 5 (fun fr' h' => h5 = h' ∧ Has fr' 138 [(0, .ptr (some (bp0, 0))), (3, .int .u8 x1), (93, .bool ((x1 == (94 : Int)) && p0.extended_))]) ?_ ?_
 ·cases hb : (x1 == (94 : Int) : Bool) with
  | true =>
   replace H := H.kn 88 hb
   refine at_gl 3 [] 92 0 2 A H fun fr t H => ?_
   refine at_sl 1 [(93, .bool p0.extended_)] H fun fr H => ?_
   exact at_zb H hb
  | false =>
   replace H := H.kn 88 hb
   refine at_sl 5 [(93, .bool false)] H fun fr H => ?_
   exact at_zb H hb
 intro t fr h' hK
 obtain ⟨e, H⟩ := hK
 subst e
 refine at_el 1 [(85, .bool ((x1 == (94 : Int)) && p0.extended_))] H (fun _ => id) fun fr H => ?_
 refine aw_if 85 H hm (fun hb hm H => ?_) fun hb hm H => ?_
 ·refine aw_sr 8 ?_
  refine at_gl 3 [(94, .ptr (some (bp0, 0)))] 97 0 1 A H fun fr t H => ?_
  obtain ⟨h10, hx, A⟩ := A.s0 1 [.int .i64 (IntKind.i64.wrap (p0.at_ + (1 : Int)))] [_, _, _, _, _, _, _, _, _]
  refine at_gs 3 [] hx H fun fr t H => ?_
  refine at_ns 4 id ?_
  obtain ⟨⟨x12, x13, x14⟩, hx, hm⟩ := bind_some hm
  obtain ⟨v1, h11, hr, r3, rfl, A1⟩ := ok_rex_walk_add_sPOR (av := [.ptr (some (bp0, 0)), .agg [.int .i64 6, .int .i64 0, .int .i64 0, .int .i64 0, .int .i64 0, .int .i64 0, .int .u64 0, .int .u64 0, .int .u64 0, .int .u64 0]]) hx (A.cut 2)
  replace A := A.g22 A1
  refine at_gc1 2 [] 103 hr H fun fr t H => ?_
  refine at_el 1 [(2, .int .i64 x12)] H (fun _ => id) fun fr H => ?_
  refine aw_rt ?_
  obtain ⟨rfl, rfl, rfl⟩ := injC hm
  exact ⟨.inl rfl, _, rH H, _, rfl, A⟩
 refine aw_sr 3 ?_
 obtain ⟨⟨x15, x16⟩, hx, hm⟩ := bind_some hm
 obtain ⟨v1, h12, hr, rfl, A1⟩ := ok_rex_walk_next_sPOS (av := [.ptr (some (bp0, 0)), .str ([40] : List UInt8)]) hx (A.cut 2)
 replace A := A.g22 A1
 refine at_gc1 1 [] 106 hr H fun fr t H => ?_
 refine at_el 1 [(104, .bool x15)] H (fun _ => id) fun fr H => ?_
 refine aw_if 104 H hm (fun hb hm H => ?_) fun hb hm H => ?_
 ·refine aw_sr 3 ?_
  cases hm
 refine aw_sr 3 ?_
 refine at_el 3 [(109, .bool (x1 == (92 : Int)))] H (fun _ => id) fun fr H => ?_
 refine aw_if 109 H hm (fun hb hm H => ?_) fun hb hm H => ?_
 ·refine aw_sr 3 ?_
  cases hm
 refine aw_kn id ?_
 refine aw_sq ?_
 obtain ⟨o1, ho, hm⟩ := bind_some hm
 refine aw_mono (Q' := fun e fr' h' => (e = .normal ∧ .inl () = o1 ∧ Has fr' 138 [(0, .ptr (some (bp0, 0))), (3, .int .u8 x1)] ∧ HH g h' [.obj bp0 (.cells none 2 [.str x16.s_, .int .i64 x16.at_, .bool x16.extended_, rowV rp0_3 p0.t_.Nodes.length, .int .i64 x16.t_.Root, .int .i64 x16.groups_, .int .i64 x16.depth_, .int .i64 x16.wrong_, .bool x16.full_]), .lst rp0_3 68 (lst e_S_tree_Node p0.t_.Nodes)] F) ∨ (∃ x17, e = .ret ∧ .inr x17 = o1 ∧ Has fr' 138 [(2, .int .i64 x17)] ∧ HH g h' [.obj bp0 (.cells none 2 [.str x16.s_, .int .i64 x16.at_, .bool x16.extended_, rowV rp0_3 p0.t_.Nodes.length, .int .i64 x16.t_.Root, .int .i64 x16.groups_, .int .i64 x16.depth_, .int .i64 x16.wrong_, .bool x16.full_]), .lst rp0_3 68 (lst e_S_tree_Node p0.t_.Nodes)] F) ∨ False) ?_ ?_
 ·replace hm := ho
  clear ho
  refine aw_sr 4 ?_
  refine at_gl 3 [] 117 0 2 A H fun fr t H => ?_
  refine at_nl id ?_
  refine aw_if 117 H hm (fun hb hm H => ?_) fun hb hm H => ?_
  ·refine aw_sr 1 ?_
   refine at_el 1 [(118, .int .u8 x1)] H (fun _ => id) fun fr H => ?_
   refine aw_block (id := 1) (by kernel_rfl) ?_
   refine aw_sq ?_
   obtain ⟨o2, ho, hm⟩ := bind_some hm
   refine aw_mono (Q' := fun e fr' h' => (e = .normal ∧ .inl () = o2 ∧ Has fr' 138 [] ∧ HH g h' [.obj bp0 (.cells none 2 [.str x16.s_, .int .i64 x16.at_, .bool x16.extended_, rowV rp0_3 p0.t_.Nodes.length, .int .i64 x16.t_.Root, .int .i64 x16.groups_, .int .i64 x16.depth_, .int .i64 x16.wrong_, .bool x16.full_]), .lst rp0_3 68 (lst e_S_tree_Node p0.t_.Nodes)] F) ∨ (e = .exit 1 ∧ .inr () = o2 ∧ Has fr' 138 [(0, .ptr (some (bp0, 0))), (3, .int .u8 x1)] ∧ HH g h' [.obj bp0 (.cells none 2 [.str x16.s_, .int .i64 x16.at_, .bool x16.extended_, rowV rp0_3 p0.t_.Nodes.length, .int .i64 x16.t_.Root, .int .i64 x16.groups_, .int .i64 x16.depth_, .int .i64 x16.wrong_, .bool x16.full_]), .lst rp0_3 68 (lst e_S_tree_Node p0.t_.Nodes)] F) ∨ False) ?_ ?_
   ·replace hm := ho
    clear ho
    refine aw_block (id := 4) (by kernel_rfl) ?_
    refine aw_block (id := 3) (by kernel_rfl) ?_
    refine aw_block (id := 2) (by kernel_rfl) ?_
    refine aw_sq ?_
    refine aw_sq ?_
    refine aw_sq ?_
    obtain ⟨o3, ho, hm⟩ := bind_some hm
    refine aw_mono (Q' := fun e fr' h' => (∃ x18, e = .normal ∧ x18 = o3 ∧ Has fr' 138 [(0, .ptr (some (bp0, 0))), (3, .int .u8 x1), (118, .int .u8 x1), (119, .bool x18)] ∧ HH g h' [.obj bp0 (.cells none 2 [.str x16.s_, .int .i64 x16.at_, .bool x16.extended_, rowV rp0_3 p0.t_.Nodes.length, .int .i64 x16.t_.Root, .int .i64 x16.groups_, .int .i64 x16.depth_, .int .i64 x16.wrong_, .bool x16.full_]), .lst rp0_3 68 (lst e_S_tree_Node p0.t_.Nodes)] F) ∨ False) ?_ ?_
    ·replace hm := ho
     clear ho
     refine aw_sr 2 ?_
     refine at_el 2 [(119, .bool (x1 == (42 : Int)))] H (fun _ => id) fun fr H => ?_
     refine aw_if 119 H hm (fun hb hm H => ?_) fun hb hm H => ?_
     ·refine aw_sk ?_
      exact .inl ⟨_, rfl, injA hm, H.ls, A⟩
     refine aw_rg 2 ?_
     refine at_se 2 [(0, .ptr (some (bp0, 0))), (3, .int .u8 x1), (118, .int .u8 x1), (119, .bool (x1 == (43 : Int)))] H fun fr H => ?_
     refine at_nil ?_
     exact .inl ⟨_, rfl, injA hm, H.ls, A⟩
    clear ho
    clear A
    intro e fr h13 hQ
    rcases hQ with ⟨x18, rfl, rfl, H, A⟩ | hF
    ·show AW _ _ _ _ _ _ _
     refine aw_if 119 H hm (fun hb hm H => ?_) fun hb hm H => ?_
     ·refine aw_exit (i := 2) (by kernel_rfl) ?_
      exact .inl ⟨rfl, injA hm, H.ls, A⟩
     refine aw_kn id ?_
     refine aw_sq ?_
     refine aw_sq ?_
     obtain ⟨o4, ho, hm⟩ := bind_some hm
     refine aw_mono (Q' := fun e fr' h' => (∃ x19, e = .normal ∧ x19 = o4 ∧ Has fr' 138 [(0, .ptr (some (bp0, 0))), (3, .int .u8 x1), (118, .int .u8 x1), (122, .bool x19)] ∧ HH g h' [.obj bp0 (.cells none 2 [.str x16.s_, .int .i64 x16.at_, .bool x16.extended_, rowV rp0_3 p0.t_.Nodes.length, .int .i64 x16.t_.Root, .int .i64 x16.groups_, .int .i64 x16.depth_, .int .i64 x16.wrong_, .bool x16.full_]), .lst rp0_3 68 (lst e_S_tree_Node p0.t_.Nodes)] F) ∨ False) ?_ ?_
     ·replace hm := ho
      clear ho
      refine aw_sr 2 ?_
      refine at_el 2 [(122, .bool (x1 == (63 : Int)))] H (fun _ => id) fun fr H => ?_
      refine aw_if 122 H hm (fun hb hm H => ?_) fun hb hm H => ?_
      ·refine aw_sk ?_
       exact .inl ⟨_, rfl, injA hm, H.ls, A⟩
      refine aw_rg 2 ?_
      refine at_se 2 [(0, .ptr (some (bp0, 0))), (3, .int .u8 x1), (118, .int .u8 x1), (122, .bool (x1 == (123 : Int)))] H fun fr H => ?_
      refine at_nil ?_
      exact .inl ⟨_, rfl, injA hm, H.ls, A⟩
     clear ho
     clear A
     intro e fr h14 hQ
     rcases hQ with ⟨x19, rfl, rfl, H, A⟩ | hF
     ·show AW _ _ _ _ _ _ _
      refine aw_if 122 H hm (fun hb hm H => ?_) fun hb hm H => ?_
      ·refine aw_exit (i := 3) (by kernel_rfl) ?_
       exact .inl ⟨rfl, injA hm, H.ls, A⟩
      refine aw_kn id ?_
      refine aw_sq ?_
      obtain ⟨o5, ho, hm⟩ := bind_some hm
      refine aw_mono (Q' := fun e fr' h' => (∃ x20, e = .normal ∧ x20 = o5 ∧ Has fr' 138 [(0, .ptr (some (bp0, 0))), (3, .int .u8 x1), (125, .bool x20)] ∧ HH g h' [.obj bp0 (.cells none 2 [.str x16.s_, .int .i64 x16.at_, .bool x16.extended_, rowV rp0_3 p0.t_.Nodes.length, .int .i64 x16.t_.Root, .int .i64 x16.groups_, .int .i64 x16.depth_, .int .i64 x16.wrong_, .bool x16.full_]), .lst rp0_3 68 (lst e_S_tree_Node p0.t_.Nodes)] F) ∨ False) ?_ ?_
      ·replace hm := ho
       clear ho
       refine aw_sr 2 ?_
       refine at_el 2 [(125, .bool (x1 == (124 : Int)))] H (fun _ => id) fun fr H => ?_
       refine aw_if 125 H hm (fun hb hm H => ?_) fun hb hm H => ?_
       ·refine aw_sk ?_
        exact .inl ⟨_, rfl, injA hm, H.ls, A⟩
       refine aw_rg 2 ?_
       refine at_se 2 [(0, .ptr (some (bp0, 0))), (3, .int .u8 x1), (125, .bool (x1 == (41 : Int)))] H fun fr H => ?_
       refine at_nil ?_
       exact .inl ⟨_, rfl, injA hm, H.ls, A⟩
      clear ho
      clear A
      intro e fr h15 hQ
      rcases hQ with ⟨x20, rfl, rfl, H, A⟩ | hF
      ·show AW _ _ _ _ _ _ _
       refine aw_if 125 H hm (fun hb hm H => ?_) fun hb hm H => ?_
       ·refine aw_exit (i := 4) (by kernel_rfl) ?_
        exact .inl ⟨rfl, injA hm, H.ls, A⟩
       refine aw_kn id ?_
       refine aw_exit (i := 1) (by kernel_rfl) ?_
       exact .inr (.inl ⟨rfl, injA hm, H.ls, A⟩)
      exact hF.elim
     exact hF.elim
    exact hF.elim
   clear ho
   clear A
   intro e fr h16 hQ
   rcases hQ with ⟨rfl, rfl, H, A⟩ | ⟨rfl, rfl, H, A⟩ | hF
   ·show AW _ _ _ _ _ _ _
    refine aw_sq ?_
    refine aw_sr 1 ?_
    refine at_el 1 [(2, .int .i64 0)] H (fun _ => id) fun fr H => ?_
    refine aw_rt ?_
    exact .inr (.inl ⟨_, rfl, injA hm, H.ls, A⟩)
   ·exact .inl ⟨rfl, injA hm, H.ls, A⟩
   exact hF.elim
  refine aw_sk ?_
  exact .inl ⟨rfl, injA hm, H.ls, A⟩
 clear ho
 clear A
 intro e fr h17 hQ
 rcases hQ with ⟨rfl, rfl, H, A⟩ | ⟨x17, rfl, rfl, H, A⟩ | hF
 ·show AW _ _ _ _ _ _ _
  refine aw_sr 8 ?_
  refine at_gl 3 [(128, .ptr (some (bp0, 0)))] 131 0 1 A H fun fr t H => ?_
  obtain ⟨h18, hx, A⟩ := A.s0 1 [.int .i64 (IntKind.i64.wrap (x16.at_ + (1 : Int)))] [_, _, _, _, _, _, _, _, _]
  refine at_gs 3 [] hx H fun fr t H => ?_
  refine at_ns 4 id ?_
  obtain ⟨⟨x21, x22, x23⟩, hx, hm⟩ := bind_some hm
  obtain ⟨v1, h19, hr, r4, rfl, A1⟩ := ok_rex_walk_one_sPOI (av := [.ptr (some (bp0, 0)), .int .u8 x1]) hx (A.cut 2)
  replace A := A.g22 A1
  refine at_gc1 2 [] 137 hr H fun fr t H => ?_
  refine at_el 1 [(2, .int .i64 x21)] H (fun _ => id) fun fr H => ?_
  refine aw_rt ?_
  obtain ⟨rfl, rfl, rfl⟩ := injC hm
  exact ⟨.inl rfl, _, rH H, _, rfl, A⟩
 ·obtain ⟨rfl, rfl, rfl⟩ := injC hm
  exact ⟨.inl rfl, _, rH H, _, rfl, A⟩
 exact hF.elim
noncomputable def M_rex_walk_fail_sPOI (p0 : S_rex_walk) (p1 : Int) : Option (S_rex_walk) :=
 iteB (decide (p0.wrong_ < (0 : Int))) (some (⟨p0.s_, p0.at_, p0.extended_, p0.t_, p0.groups_, p0.depth_, p1, p0.full_⟩ : S_rex_walk)) (some p0)
theorem ok_rex_walk_fail_sPOI {p0 p1 bp0 rp0_3 u0} (hm : M_rex_walk_fail_sPOI p0 p1 = some u0) (A : HH g h [.obj bp0 (.cells none 2 [.str p0.s_, .int .i64 p0.at_, .bool p0.extended_, rowV rp0_3 p0.t_.Nodes.length, .int .i64 p0.t_.Root, .int .i64 p0.groups_, .int .i64 p0.depth_, .int .i64 p0.wrong_, .bool p0.full_]), .lst rp0_3 68 (lst e_S_tree_Node p0.t_.Nodes)] F) (hc : canL (cfg.still 38) av = [.ptr (some (bp0, 0)), .int .i64 p1] := by kernel_rfl) : ∃ v h', Runs cfg g h 38 av v h' ∧ v = .tuple [] ∧ HH g h' [.obj bp0 (.cells none 2 [.str u0.s_, .int .i64 u0.at_, .bool u0.extended_, rowV rp0_3 p0.t_.Nodes.length, .int .i64 u0.t_.Root, .int .i64 u0.groups_, .int .i64 u0.depth_, .int .i64 u0.wrong_, .bool u0.full_]), .lst rp0_3 68 (lst e_S_tree_Node p0.t_.Nodes)] F := by
 refine rq1 13 [] hc ?_
 clear hc
 unfold M_rex_walk_fail_sPOI at hm
 refine bg 13 [(0, .ptr (some (bp0, 0))), (1, .int .i64 p1)] fun fr H => ?_
 refine aw_sr 5 ?_
 refine at_gl 3 [] 7 0 7 A H fun fr t H => ?_
 refine at_el 1 [(8, .bool (decide (p0.wrong_ < (0 : Int))))] H (fun _ => id) fun fr H => ?_
 refine aw_if 8 H hm (fun hb hm H => ?_) fun hb hm H => ?_
 ·refine aw_rg 5 ?_
  obtain ⟨h1, hx, A⟩ := A.s0 7 [.int .i64 p1] [_, _, _, _, _, _, _, _, _]
  refine at_gs 4 [] hx H fun fr t H => ?_
  refine at_nil ?_
  obtain rfl := injA hm
  refine ⟨.inr rfl, .tuple [], rH H, ?_⟩
  exact ⟨rfl, A⟩
 refine aw_sk ?_
 obtain rfl := injA hm
 refine ⟨.inr rfl, .tuple [], rH H, ?_⟩
 exact ⟨rfl, A⟩
noncomputable def M_rex_walk_nest_sPOIO_L0 (p1 : Int) (p2 : List Int) (s : (List UInt8) × Int × Bool × Int × Int × Int × Int × Bool × (List S_tree_Node) × Int × Int) : Option (((List UInt8) × Int × Bool × Int × Int × Int × Int × Bool × (List S_tree_Node) × Int × Int) ⊕ (((List UInt8) × Int × Bool × Int × Int × Int × Int × Bool × (List S_tree_Node) × Int))) :=
 match s with
 | (x5, x6, x7, x8, x9, x10, x11, x12, x13, x14, x15) => iteB (decide (x15 ≥ (0 : Int))) ((ixV p2 x15).bind fun x26 => (M_rex_walk_add_sPOR (⟨x5, x6, x7, (⟨x13, x8⟩ : S_tree_Tree), x9, x10, x11, x12⟩ : S_rex_walk) (⟨p1, x26, x14, (0 : Int), (0 : Int), (0 : Int), (⟨(0 : Int), (0 : Int), (0 : Int), (0 : Int)⟩ : A4_uint64)⟩ : S_tree_Node)).bind fun (x27, x28, x29) => some (.inl (x28.s_, x28.at_, x28.extended_, x28.t_.Root, x28.groups_, x28.depth_, x28.wrong_, x28.full_, x29, x27, IntKind.i64.wrap (x15 - (1 : Int))))) (some (.inr (x5, x6, x7, x8, x9, x10, x11, x12, x13, x14)))
noncomputable def M_rex_walk_nest_sPOIO (p0 : S_rex_walk) (p1 : Int) (p2 : List Int) : Option (Int × S_rex_walk × (List S_tree_Node)) :=
 iteB ((p2.length : Int) == (0 : Int)) ((M_rex_walk_add_sPOR p0 (⟨(0 : Int), (0 : Int), (0 : Int), (0 : Int), (0 : Int), (0 : Int), (⟨(0 : Int), (0 : Int), (0 : Int), (0 : Int)⟩ : A4_uint64)⟩ : S_tree_Node)).bind fun (x1, x2, x3) => some (x1, (⟨x2.s_, x2.at_, x2.extended_, (⟨x3, x2.t_.Root⟩ : S_tree_Tree), x2.groups_, x2.depth_, x2.wrong_, x2.full_⟩ : S_rex_walk), x3)) ((ixV p2 (IntKind.i64.wrap ((p2.length : Int) - (1 : Int)))).bind fun x4 => (loop (M_rex_walk_nest_sPOIO_L0 p1 p2) (p0.s_, p0.at_, p0.extended_, p0.t_.Root, p0.groups_, p0.depth_, p0.wrong_, p0.full_, p0.t_.Nodes, x4, IntKind.i64.wrap ((p2.length : Int) - (2 : Int)))).bind fun (x16, x17, x18, x19, x20, x21, x22, x23, x24, x25) => some (x25, (⟨x16, x17, x18, (⟨x24, x19⟩ : S_tree_Tree), x20, x21, x22, x23⟩ : S_rex_walk), x24))
theorem ok_rex_walk_nest_sPOIO {p0 p1 p2 bp0 rp0_3 rp2 q0 u0 u1} (hm : M_rex_walk_nest_sPOIO p0 p1 p2 = some (q0, u0, u1)) (A : HH g h [.obj bp0 (.cells none 2 [.str p0.s_, .int .i64 p0.at_, .bool p0.extended_, rowV rp0_3 p0.t_.Nodes.length, .int .i64 p0.t_.Root, .int .i64 p0.groups_, .int .i64 p0.depth_, .int .i64 p0.wrong_, .bool p0.full_]), .lst rp0_3 68 (lst e_S_tree_Node p0.t_.Nodes), .lst rp2 3 (lst (eI .i64) p2)] F) (hc : canL (cfg.still 58) av = [.ptr (some (bp0, 0)), .int .i64 p1, rowV rp2 p2.length] := by kernel_rfl) : ∃ v h', Runs cfg g h 58 av v h' ∧ ∃ (r'1 : Option Nat), v = .int .i64 q0 ∧ HH g h' [.obj bp0 (.cells none 2 [.str u0.s_, .int .i64 u0.at_, .bool u0.extended_, rowV r'1 u1.length, .int .i64 u0.t_.Root, .int .i64 u0.groups_, .int .i64 u0.depth_, .int .i64 u0.wrong_, .bool u0.full_]), .lst r'1 68 (lst e_S_tree_Node u1), .lst rp2 3 (lst (eI .i64) p2)] F := by
 refine rq1 38 [.tmp 6] hc ?_
 clear hc
 unfold M_rex_walk_nest_sPOIO at hm
 refine bg 38 [(0, .ptr (some (bp0, 0))), (1, .int .i64 p1), (2, rowV rp2 p2.length)] fun fr H => ?_
 refine aw_sr 1 ?_
 refine at_el 1 [] H (fun _ => id) fun fr H => ?_
 refine aw_sq ?_
 refine aw_sr 3 ?_
 refine at_el 3 [(11, .bool ((p2.length : Int) == (0 : Int)))] H (fun _ => id) fun fr H => ?_
 refine aw_if 11 H hm (fun hb hm H => ?_) fun hb hm H => ?_
 ·refine aw_sr 4 ?_
  obtain ⟨⟨x1, x2, x3⟩, hx, hm⟩ := bind_some hm
  obtain ⟨v1, h1, hr, r1, rfl, A1⟩ := ok_rex_walk_add_sPOR (av := [.ptr (some (bp0, 0)), .agg [.int .i64 0, .int .i64 0, .int .i64 0, .int .i64 0, .int .i64 0, .int .i64 0, .int .u64 0, .int .u64 0, .int .u64 0, .int .u64 0]]) hx (A.cut 2)
  replace A := A.g22 A1
  refine at_gc1 2 [] 14 hr H fun fr t H => ?_
  refine at_el 1 [(6, .int .i64 x1)] H (fun _ => id) fun fr H => ?_
  refine aw_rt ?_
  obtain ⟨rfl, rfl, rfl⟩ := injC hm
  exact ⟨.inl rfl, _, rH H, _, rfl, A⟩
 refine aw_ks 7 id ?_
 obtain ⟨x4, hx, hm⟩ := bind_some hm
 obtain ⟨i1, er1, _, hx, hq1⟩ := HH.ixO (encI .i64) (by decide) A 2 (xs := p2) rfl hx
 refine at_g1 4 [] 19 (.ptr (some (i1, (IntKind.i64.wrap ((p2.length : Int) - (1 : Int))).toNat * 1))) h H (fun fr => .of (s_ixL (s := rowS rp2 p2.length) (by kernel_rfl) hx)) fun fr t H => ?_
 refine at_l1 20 _ _ H (fun fr => .of (s_ld (by kernel_rfl) (row_ld1 (encI .i64) (HH.row A 2 rfl er1) hq1 (o := 0) rfl))) fun fr t H => ?_
 refine at_el 1 [(7, .int .i64 x4)] H (fun _ => id) fun fr H => ?_
 refine aw_sq ?_
 refine aw_sr 4 ?_
 refine at_el 4 [(8, .int .i64 (IntKind.i64.wrap ((p2.length : Int) - (2 : Int))))] H (fun _ => id) fun fr H => ?_
 refine aw_block (id := 0) (by kernel_rfl) ?_
 obtain ⟨o1, ho, hm⟩ := bind_some hm
 refine aw_mono (Q' := fun e fr' h' => (∃ x16 x17 x18 x19 x20 x21 x22 x23 x24 x25, e = .exit 0 ∧ (x16, x17, x18, x19, x20, x21, x22, x23, x24, x25) = o1 ∧ ∃ r3, Has fr' 38 [(7, .int .i64 x25)] ∧ HH g h' [.obj bp0 (.cells none 2 [.str x16, .int .i64 x17, .bool x18, rowV r3 x24.length, .int .i64 x19, .int .i64 x20, .int .i64 x21, .int .i64 x22, .bool x23]), .lst r3 68 (lst e_S_tree_Node x24), .lst rp2 3 (lst (eI .i64) p2)] F) ∨ False) ?_ ?_
 ·refine aw_loop (by kernel_rfl) (fun (s : (List UInt8) × Int × Bool × Int × Int × Int × Int × Bool × (List S_tree_Node) × Int × Int) fr' h' => ∃ x5 x6 x7 x8 x9 x10 x11 x12 x13 x14 x15, (x5, x6, x7, x8, x9, x10, x11, x12, x13, x14, x15) = s ∧ ∃ r2, Has fr' 38 [(0, .ptr (some (bp0, 0))), (1, .int .i64 p1), (2, rowV rp2 p2.length), (7, .int .i64 x14), (8, .int .i64 x15)] ∧ HH g h' [.obj bp0 (.cells none 2 [.str x5, .int .i64 x6, .bool x7, rowV r2 x13.length, .int .i64 x8, .int .i64 x9, .int .i64 x10, .int .i64 x11, .bool x12]), .lst r2 68 (lst e_S_tree_Node x13), .lst rp2 3 (lst (eI .i64) p2)] F) ho ⟨_, _, _, _, _, _, _, _, _, _, _, rfl, rp0_3, H.ls, A⟩ ?_
  clear ho hm H A
  intro s q fr h2 hI hm
  obtain ⟨x5, x6, x7, x8, x9, x10, x11, x12, x13, x14, x15, rfl, r2, H, A⟩ := hI
  unfold M_rex_walk_nest_sPOIO_L0 at hm
  refine aw_sq ?_
  refine aw_sr 2 ?_
  refine at_el 2 [(25, .bool (decide (x15 ≥ (0 : Int))))] H (fun _ => id) fun fr H => ?_
  refine aw_if 25 H hm (fun hb hm H => ?_) fun hb hm H => ?_
  ·refine aw_kn id ?_
   refine aw_sq ?_
   refine aw_block (id := 1) (by kernel_rfl) ?_
   refine aw_rg 10 ?_
   obtain ⟨x26, hx, hm⟩ := bind_some hm
   obtain ⟨i2, er2, _, hx, hq2⟩ := HH.ixO (encI .i64) (by decide) A 2 (xs := p2) rfl hx
   refine at_g1 4 [(28, .ptr (some (bp0, 0))), (29, .int .i64 p1)] 32 (.ptr (some (i2, x15.toNat * 1))) h2 H (fun fr => .of (s_ixL (s := rowS rp2 p2.length) (by kernel_rfl) hx)) fun fr t H => ?_
   refine at_l1 33 _ _ H (fun fr => .of (s_ld (by kernel_rfl) (row_ld1 (encI .i64) (HH.row A 2 rfl er2) hq2 (o := 0) rfl))) fun fr t H => ?_
   obtain ⟨⟨x27, x28, x29⟩, hx, hm⟩ := bind_some hm
   obtain ⟨v1, h3, hr, r4, rfl, A1⟩ := ok_rex_walk_add_sPOR (av := [.ptr (some (bp0, 0)), .agg [.int .i64 p1, .int .i64 x26, .int .i64 x14, .int .i64 0, .int .i64 0, .int .i64 0, .int .u64 0, .int .u64 0, .int .u64 0, .int .u64 0]]) hx (A.cut 2)
   replace A := A.g22 A1
   refine at_gc1 2 [] 36 hr H fun fr t H => ?_
   refine at_se 1 [(0, .ptr (some (bp0, 0))), (1, .int .i64 p1), (2, rowV rp2 p2.length), (7, .int .i64 x27), (8, .int .i64 x15)] H fun fr H => ?_
   refine at_nr 3 id ?_
   refine at_se 3 [(0, .ptr (some (bp0, 0))), (1, .int .i64 p1), (2, rowV rp2 p2.length), (7, .int .i64 x27), (8, .int .i64 (IntKind.i64.wrap (x15 - (1 : Int))))] H fun fr H => ?_
   refine at_nil ?_
   exact nx hm ⟨_, _, _, _, _, _, _, _, _, _, _, rfl, _, H.ls, A⟩
  refine aw_exit (i := 0) (by kernel_rfl) ?_
  exact nr hm fun e => .inl ⟨_, _, _, _, _, _, _, _, _, _, rfl, e, _, H.ls, A⟩
 clear ho
 clear A
 intro e fr h4 hQ
 rcases hQ with ⟨x16, x17, x18, x19, x20, x21, x22, x23, x24, x25, rfl, rfl, r3, H, A⟩ | hF
 ·show AW _ _ _ _ _ _ _
  refine aw_sr 2 ?_
  refine at_el 2 [(6, .int .i64 x25)] H (fun _ => id) fun fr H => ?_
  refine aw_rt ?_
  obtain ⟨rfl, rfl, rfl⟩ := injC hm
  exact ⟨.inl rfl, _, rH H, _, rfl, A⟩
 exact hF.elim
noncomputable def M_tree_Tree_Right_L0 (p0 : S_tree_Tree) (s : Int) : Option ((Int) ⊕ ((Unit) ⊕ (Bool))) :=
 match s with
 | x1 => iteB (decide (x1 < (p0.Nodes.length : Int))) ((ixV p0.Nodes x1).bind fun x3 => (M_tree_may x3 x1).bind fun x4 => iteB (!x4) (some (.inr (.inr false))) (some (.inl (IntKind.i64.wrap (x1 + (1 : Int)))))) (some (.inr (.inl ())))
noncomputable def M_tree_Tree_Right (p0 : S_tree_Tree) : Option (Bool) :=
 iteB (((decide ((p0.Nodes.length : Int) > (1024 : Int))) || (decide (p0.Root < (0 : Int)))) || (decide (p0.Root ≥ (p0.Nodes.length : Int)))) (some false) ((loop (M_tree_Tree_Right_L0 p0) (0 : Int)).bind fun o1 => (match o1 with | .inl _ => some true | .inr x2 => some x2))
theorem ok_tree_Tree_Right {p0 q0} (hm : M_tree_Tree_Right p0 = some q0) (A : HH g h [] F) (hc : canL (cfg.still 39) av = [.agg [vs e_S_tree_Node p0.Nodes, .int .i64 p0.Root]] := by kernel_rfl) : ∃ v h', Runs cfg g h 39 av v h' ∧ v = .bool q0 ∧ HH g h' [] F := by
 refine rq1 35 [.tmp 2] hc ?_
 clear hc
 unfold M_tree_Tree_Right at hm
 refine bg 35 [(0, .agg [vs e_S_tree_Node p0.Nodes, .int .i64 p0.Root])] fun fr H => ?_
 refine aw_sr 2 ?_
 obtain ⟨h1, e1, A⟩ := A.pu (.cells none 2 [vs e_S_tree_Node p0.Nodes, .int .i64 p0.Root])
 refine at_ln 1 (.ptr (some (h.size, 0))) e1 H fun fr t H => ?_
 refine at_el 1 [] H (fun _ => id) fun fr H => ?_
 refine aw_sq ?_
 refine aw_sr 17 ?_
 refine at_gl 1 [] 6 0 0 A H fun fr t H => ?_
 refine at_sl 3 [(9, .bool (decide ((p0.Nodes.length : Int) > (1024 : Int))))] H fun fr H => ?_
 refine at_cl 4 (fun fr' h' => h1 = h' ∧ Has fr' 35 [(1, .ptr (some (h.size, 0))), (13, .bool ((decide ((p0.Nodes.length : Int) > (1024 : Int))) || (decide (p0.Root < (0 : Int)))))]) ?_ ?_
 ·cases hb : (decide ((p0.Nodes.length : Int) > (1024 : Int)) : Bool) with
  | true =>
   replace H := H.kn 9 hb
   refine at_sl 4 [(13, .bool true)] H fun fr H => ?_
   exact at_zb H hb
  | false =>
   replace H := H.kn 9 hb
   refine at_gl 1 [] 11 0 1 A H fun fr t H => ?_
   refine at_sl 2 [(13, .bool (decide (p0.Root < (0 : Int))))] H fun fr H => ?_
   exact at_zb H hb
 intro t fr h' hK
 obtain ⟨e, H⟩ := hK
 subst e
 refine at_sl 1 [(14, .bool ((decide ((p0.Nodes.length : Int) > (1024 : Int))) || (decide (p0.Root < (0 : Int)))))] H fun fr H => ?_
 refine at_cl 7 (fun fr' h' => h1 = h' ∧ Has fr' 35 [(1, .ptr (some (h.size, 0))), (21, .bool (((decide ((p0.Nodes.length : Int) > (1024 : Int))) || (decide (p0.Root < (0 : Int)))) || (decide (p0.Root ≥ (p0.Nodes.length : Int)))))]) ?_ ?_
 ·cases hb : ((decide ((p0.Nodes.length : Int) > (1024 : Int))) || (decide (p0.Root < (0 : Int))) : Bool) with
  | true =>
   replace H := H.kn 14 hb
   refine at_sl 7 [(21, .bool true)] H fun fr H => ?_
   exact at_zb H hb
  | false =>
   replace H := H.kn 14 hb
   refine at_gl 1 [] 16 0 1 A H fun fr t H => ?_
   refine at_gl 1 [] 18 0 0 A H fun fr t H => ?_
   refine at_sl 3 [(21, .bool (decide (p0.Root ≥ (p0.Nodes.length : Int))))] H fun fr H => ?_
   exact at_zb H hb
 intro t fr h' hK
 obtain ⟨e, H⟩ := hK
 subst e
 refine at_nl id ?_
 refine aw_if 21 H hm (fun hb hm H => ?_) fun hb hm H => ?_
 ·refine aw_sr 1 ?_
  refine at_el 1 [(2, .bool false)] H (fun _ => id) fun fr H => ?_
  refine aw_rt ?_
  obtain rfl := injA hm
  refine ⟨.inl rfl, .bool false, rH H, ?_⟩
  replace A := A.d0
  exact ⟨rfl, A⟩
 refine aw_kn id ?_
 refine aw_sq ?_
 refine aw_sr 4 ?_
 refine at_gl 1 [] 23 0 0 A H fun fr t H => ?_
 refine at_el 2 [(24, .int .i64 (p0.Nodes.length : Int)), (25, .int .i64 0)] H (fun _ => id) fun fr H => ?_
 refine aw_block (id := 0) (by kernel_rfl) ?_
 obtain ⟨o1, ho, hm⟩ := bind_some hm
 refine aw_mono (Q' := fun e fr' h' => (e = .exit 0 ∧ .inl () = o1 ∧ Has fr' 35 [] ∧ HH g h' [.obj h.size (.cells none 2 [vs e_S_tree_Node p0.Nodes, .int .i64 p0.Root])] F) ∨ (∃ x2, e = .ret ∧ .inr x2 = o1 ∧ Has fr' 35 [(2, .bool x2)] ∧ HH g h' [.obj h.size (.cells none 2 [vs e_S_tree_Node p0.Nodes, .int .i64 p0.Root])] F) ∨ False) ?_ ?_
 ·refine aw_loop (by kernel_rfl) (fun (s : Int) fr' h' => ∃ x1, x1 = s ∧ Has fr' 35 [(23, vs e_S_tree_Node p0.Nodes), (24, .int .i64 (p0.Nodes.length : Int)), (25, .int .i64 x1)] ∧ HH g h' [.obj h.size (.cells none 2 [vs e_S_tree_Node p0.Nodes, .int .i64 p0.Root])] F) ho ⟨_, rfl, H.ls, A⟩ ?_
  clear ho hm H A
  intro s q fr h2 hI hm
  obtain ⟨x1, rfl, H, A⟩ := hI
  unfold M_tree_Tree_Right_L0 at hm
  refine aw_sr 1 ?_
  refine at_el 1 [(26, .bool (decide (x1 < (p0.Nodes.length : Int))))] H (fun _ => id) fun fr H => ?_
  refine aw_sq ?_
  refine aw_if 26 H hm (fun hb hm H => ?_) fun hb hm H => ?_
  ·refine aw_kn id ?_
   refine aw_sq ?_
   refine aw_block (id := 1) (by kernel_rfl) ?_
   refine aw_sr 6 ?_
   obtain ⟨x3, hx, hm⟩ := bind_some hm
   refine at_g1 1 [(27, .int .i64 x1)] 28 (.vptr (e_S_tree_Node x3)) h2 H (fun fr => .of (s_ixV (e := e_S_tree_Node) (x := x3) enc_S_tree_Node (by decide) (by kernel_rfl) hx)) fun fr t H => ?_
   refine at_l1 29 (.agg (e_S_tree_Node x3)) h2 H (fun fr => .of (s_lv (by kernel_rfl))) fun fr t H => ?_
   obtain ⟨h3, e2, A⟩ := A.pu (.cells none 2 [.int .i64 0, .int .i64 0, .int .i64 0, .int .i64 0, .int .i64 0, .int .i64 0, .int .u64 0, .int .u64 0, .int .u64 0, .int .u64 0])
   refine at_ln 4 (.ptr (some (h2.size, 0))) e2 H fun fr t H => ?_
   obtain ⟨h4, hx, A⟩ := A.s0 0 [.int .i64 x3.Kind, .int .i64 x3.A, .int .i64 x3.B, .int .i64 x3.Min, .int .i64 x3.Max, .int .i64 x3.Group, .int .u64 x3.Set.w0, .int .u64 x3.Set.w1, .int .u64 x3.Set.w2, .int .u64 x3.Set.w3] [_, _, _, _, _, _, _, _, _, _]
   refine at_gS 1 [(3, .int .i64 x1)] hx H fun fr t H => ?_
   refine at_ns 4 id ?_
   refine at_l1 30 _ _ H (fun fr => .of (s_ldA (by kernel_rfl) (A.ldA 0 rfl (o := 0) (n := 10) ⟨Nat.le_of_ble_eq_true rfl, rfl⟩))) fun fr t H => ?_
   obtain ⟨x4, hx, hm⟩ := bind_some hm
   obtain ⟨v1, h5, hr, rfl, A1⟩ := ok_tree_may (av := [.agg (e_S_tree_Node x3), .int .i64 x1]) hx (A.cut 0)
   replace A := A.g00 A1
   refine at_gc1 1 [] 32 hr H fun fr t H => ?_
   refine at_el 1 [(33, .bool (!x4))] H (fun _ => id) fun fr H => ?_
   refine aw_if 33 H hm (fun hb hm H => ?_) fun hb hm H => ?_
   ·refine aw_sr 1 ?_
    refine at_el 1 [(2, .bool false)] H (fun _ => id) fun fr H => ?_
    refine aw_rt ?_
    replace A := A.k1 1
    exact nr hm fun e => Or.inr (.inl ⟨_, rfl, e, H.ls, A⟩)
   refine aw_kr 2 id ?_
   refine at_se 2 [(23, vs e_S_tree_Node p0.Nodes), (24, .int .i64 (p0.Nodes.length : Int)), (25, .int .i64 (IntKind.i64.wrap (x1 + (1 : Int))))] H fun fr H => ?_
   refine at_nil ?_
   replace A := A.k1 1
   exact nx hm ⟨_, rfl, H.ls, A⟩
  refine aw_exit (i := 0) (by kernel_rfl) ?_
  exact nr hm fun e => .inl ⟨rfl, e, H.ls, A⟩
 clear ho
 clear A
 intro e fr h6 hQ
 rcases hQ with ⟨rfl, rfl, H, A⟩ | ⟨x2, rfl, rfl, H, A⟩ | hF
 ·show AW _ _ _ _ _ _ _
  refine aw_sr 1 ?_
  refine at_el 1 [(2, .bool true)] H (fun _ => id) fun fr H => ?_
  refine aw_rt ?_
  obtain rfl := injA hm
  refine ⟨.inl rfl, .bool true, rH H, ?_⟩
  replace A := A.d0
  exact ⟨rfl, A⟩
 ·obtain rfl := injA hm
  refine ⟨.inl rfl, .bool x2, rH H, ?_⟩
  replace A := A.d0
  exact ⟨rfl, A⟩
 exact hF.elim
noncomputable def M_slices_Index_int_int_L0 (p0 : List Int) (p1 : Int) (s : Int) : Option ((Int) ⊕ ((Unit) ⊕ (Int))) :=
 match s with
 | x1 => iteB (decide (x1 < (p0.length : Int))) ((ixV p0 x1).bind fun x3 => iteB (p1 == x3) (some (.inr (.inr x1))) (some (.inl (IntKind.i64.wrap (x1 + (1 : Int)))))) (some (.inr (.inl ())))
noncomputable def M_slices_Index_int_int (p0 : List Int) (p1 : Int) : Option (Int) :=
 (loop (M_slices_Index_int_int_L0 p0 p1) (0 : Int)).bind fun o1 => (match o1 with | .inl _ => some (-1 : Int) | .inr x2 => some x2)
theorem ok_slices_Index_int_int {p0 p1 q0} (hm : M_slices_Index_int_int p0 p1 = some q0) (A : HH g h [] F) (hc : canL (cfg.still 84) av = [vs (eI .i64) p0, .int .i64 p1] := by kernel_rfl) : ∃ v h', Runs cfg g h 84 av v h' ∧ v = .int .i64 q0 ∧ HH g h' [] F := by
 refine rq1 19 [.tmp 4] hc ?_
 clear hc
 unfold M_slices_Index_int_int at hm
 refine bg 19 [(0, vs (eI .i64) p0), (1, .int .i64 p1)] fun fr H => ?_
 refine aw_sr 1 ?_
 refine at_el 1 [] H (fun _ => id) fun fr H => ?_
 refine aw_sq ?_
 refine aw_sr 3 ?_
 refine at_el 3 [(7, .int .i64 (p0.length : Int)), (8, .int .i64 0)] H (fun _ => id) fun fr H => ?_
 refine aw_block (id := 0) (by kernel_rfl) ?_
 obtain ⟨o1, ho, hm⟩ := bind_some hm
 refine aw_mono (Q' := fun e fr' h' => (e = .exit 0 ∧ .inl () = o1 ∧ Has fr' 19 [] ∧ HH g h' [] F) ∨ (∃ x2, e = .ret ∧ .inr x2 = o1 ∧ Has fr' 19 [(4, .int .i64 x2)] ∧ HH g h' [] F) ∨ False) ?_ ?_
 ·refine aw_loop (by kernel_rfl) (fun (s : Int) fr' h' => ∃ x1, x1 = s ∧ Has fr' 19 [(0, vs (eI .i64) p0), (1, .int .i64 p1), (7, .int .i64 (p0.length : Int)), (8, .int .i64 x1)] ∧ HH g h' [] F) ho ⟨_, rfl, H.ls, A⟩ ?_
  clear ho hm H A
  intro s q fr h1 hI hm
  obtain ⟨x1, rfl, H, A⟩ := hI
  unfold M_slices_Index_int_int_L0 at hm
  refine aw_sr 1 ?_
  refine at_el 1 [(9, .bool (decide (x1 < (p0.length : Int))))] H (fun _ => id) fun fr H => ?_
  refine aw_sq ?_
  refine aw_if 9 H hm (fun hb hm H => ?_) fun hb hm H => ?_
  ·refine aw_kn id ?_
   refine aw_sq ?_
   refine aw_block (id := 1) (by kernel_rfl) ?_
   refine aw_sr 2 ?_
   refine at_es 2 [(5, .int .i64 x1)] 6 H (fun _ => id) fun fr H => ?_
   obtain ⟨x3, hx, hm⟩ := bind_some hm
   refine at_g1 3 [(11, .int .i64 p1)] 14 (.vptr [.int .i64 x3]) h1 H (fun fr => .of (s_ixV (e := (eI .i64)) (x := x3) (encI .i64) (by decide) (by kernel_rfl) hx)) fun fr t H => ?_
   refine at_l1 15 (.int .i64 x3) h1 H (fun fr => .of (s_lv (by kernel_rfl))) fun fr t H => ?_
   refine at_el 1 [(16, .bool (p1 == x3))] H (fun _ => id) fun fr H => ?_
   refine aw_if 16 H hm (fun hb hm H => ?_) fun hb hm H => ?_
   ·refine aw_sr 2 ?_
    refine at_el 2 [(4, .int .i64 x1)] H (fun _ => id) fun fr H => ?_
    refine aw_rt ?_
    exact nr hm fun e => Or.inr (.inl ⟨_, rfl, e, H.ls, A⟩)
   refine aw_kr 2 id ?_
   refine at_se 2 [(0, vs (eI .i64) p0), (1, .int .i64 p1), (7, .int .i64 (p0.length : Int)), (8, .int .i64 (IntKind.i64.wrap (x1 + (1 : Int))))] H fun fr H => ?_
   refine at_nil ?_
   exact nx hm ⟨_, rfl, H.ls, A⟩
  refine aw_exit (i := 0) (by kernel_rfl) ?_
  exact nr hm fun e => .inl ⟨rfl, e, H.ls, A⟩
 clear ho
 clear A
 intro e fr h2 hQ
 rcases hQ with ⟨rfl, rfl, H, A⟩ | ⟨x2, rfl, rfl, H, A⟩ | hF
 ·show AW _ _ _ _ _ _ _
  refine aw_sr 1 ?_
  refine at_el 1 [(4, .int .i64 (-1))] H (fun _ => id) fun fr H => ?_
  refine aw_rt ?_
  obtain rfl := injA hm
  exact ⟨.inl rfl, _, rH H, rfl, A⟩
 ·obtain rfl := injA hm
  exact ⟨.inl rfl, _, rH H, rfl, A⟩
 exact hF.elim
noncomputable def M_slices_Contains_int_int (p0 : List Int) (p1 : Int) : Option (Bool) :=
 (M_slices_Index_int_int p0 p1).bind fun x1 => some (decide (x1 ≥ (0 : Int)))
theorem ok_slices_Contains_int_int {p0 p1 q0} (hm : M_slices_Contains_int_int p0 p1 = some q0) (A : HH g h [] F) (hc : canL (cfg.still 67) av = [vs (eI .i64) p0, .int .i64 p1] := by kernel_rfl) : ∃ v h', Runs cfg g h 67 av v h' ∧ v = .bool q0 ∧ HH g h' [] F := by
 refine rq1 9 [.tmp 4] hc ?_
 clear hc
 unfold M_slices_Contains_int_int at hm
 refine bg 9 [(0, vs (eI .i64) p0), (1, .int .i64 p1)] fun fr H => ?_
 refine aw_sr 1 ?_
 refine at_es 1 [] 5 H (fun _ => id) fun fr H => ?_
 obtain ⟨x1, hx, hm⟩ := bind_some hm
 obtain ⟨v1, h1, hr, rfl, A1⟩ := ok_slices_Index_int_int (av := [vs (eI .i64) p0, .int .i64 p1]) hx (A.cut 0)
 replace A := A.g00 A1
 refine at_gc1 2 [] 7 hr H fun fr t H => ?_
 refine at_el 2 [(4, .bool (decide (x1 ≥ (0 : Int))))] H (fun _ => id) fun fr H => ?_
 refine aw_rt ?_
 obtain rfl := injA hm
 exact ⟨.inl rfl, _, rH H, rfl, A⟩
end Go.Av.L
