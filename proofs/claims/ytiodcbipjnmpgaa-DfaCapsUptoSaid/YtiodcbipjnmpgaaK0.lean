/-
 Models of functions, and that the abstract run tells them. Written by lift2.py.
-/
import Derived.Test.YtiodcbipjnmpgaaKCfg
namespace Go.Av.L
open Go.Av Go.Lib
set_option maxRecDepth 10000
set_option linter.unusedVariables false
set_option linter.unusedSimpArgs false
variable {g : Gd} {h : AHeap} {F : List Ck} {av : List AVal}
noncomputable def M_class_Set_Has (p0 : A4_uint64) (p1 : Int) : Option (Bool) :=
 (ixV ([p0.w0, p0.w1, p0.w2, p0.w3] : List Int) (bShr .u8 p1 (6 : Int))).bind fun x1 => need (decide (0 ≤ (bAnd .u8 p1 (63 : Int)))) <| some ((bAnd .u64 (bShr .u64 x1 (bAnd .u8 p1 (63 : Int))) (1 : Int)) == (1 : Int))
theorem ok_class_Set_Has {p0 p1 q0} (hm : M_class_Set_Has p0 p1 = some q0) (A : HH g h [] F) (hc : canL (cfg.still 31) av = [.agg [.int .u64 p0.w0, .int .u64 p0.w1, .int .u64 p0.w2, .int .u64 p0.w3], .int .u8 p1] := by kernel_rfl) : ∃ v h', Runs cfg g h 31 av v h' ∧ v = .bool q0 ∧ HH g h' [] F := by
 refine rq1 14 [.tmp 4] hc ?_
 clear hc
 unfold M_class_Set_Has at hm
 refine bg 14 [(0, .agg [.int .u64 p0.w0, .int .u64 p0.w1, .int .u64 p0.w2, .int .u64 p0.w3]), (1, .int .u8 p1)] fun fr H => ?_
 refine aw_sr 2 ?_
 obtain ⟨h1, e1, A⟩ := A.pu (.cells none 2 [.int .u64 p0.w0, .int .u64 p0.w1, .int .u64 p0.w2, .int .u64 p0.w3])
 refine at_ln 2 (.ptr (some (h.size, 0))) e1 H fun fr t H => ?_
 refine at_es 1 [] 10 H (fun _ => id) fun fr H => ?_
 obtain ⟨x1, hq1, hm⟩ := bind_some hm
 refine at_g1 2 [] 7 (.ptr (some (h.size, 0 + (bShr .u8 p1 (6 : Int)).toNat * 1))) h1 H (fun fr => .of (s_ixA (by kernel_rfl) (ixA_of hq1 (h.size, 0) 1 rfl))) fun fr t H => ?_
 refine at_l1 8 _ _ H (fun fr => .of (s_ld (by kernel_rfl) (HH.ldW A 0 rfl 0 (fun w : Int => .int .u64 w) [p0.w0, p0.w1, p0.w2, p0.w3] rfl hq1))) fun fr t H => ?_
 refine at_sl 2 [(10, .int .u8 (bAnd .u8 p1 (63 : Int)))] H fun fr H => ?_
 obtain ⟨hb, hm⟩ := need_some hm
 refine at_l1 11 (.int .u64 (bShr .u64 x1 (bAnd .u8 p1 (63 : Int)))) h1 H (fun fr => .of (s_shr (by kernel_rfl) hb)) fun fr t H => ?_
 refine at_el 3 [(4, .bool ((bAnd .u64 (bShr .u64 x1 (bAnd .u8 p1 (63 : Int))) (1 : Int)) == (1 : Int)))] H (fun _ => id) fun fr H => ?_
 refine aw_rt ?_
 obtain rfl := injA hm
 refine ⟨.inl rfl, .bool ((bAnd .u64 (bShr .u64 x1 (bAnd .u8 p1 (63 : Int))) (1 : Int)) == (1 : Int)), rH H, ?_⟩
 replace A := A.d0
 exact ⟨rfl, A⟩
noncomputable def M_class_Set_Bytes_L0 (p0 : A4_uint64) (s : (List UInt8) × Int) : Option (((List UInt8) × Int) ⊕ (((List UInt8)))) :=
 match s with
 | (x1, x2) => iteB (decide (x2 < (256 : Int))) (((M_class_Set_Has p0 (IntKind.u8.wrap x2)).bind fun x5 => iteB x5 ((toY (IntKind.u8.wrap x2)).bind fun x6 => need (okN 1 (x1.length + ([x6] : List UInt8).length)) <| some (x1 ++ ([x6] : List UInt8))) (some x1) : Option (((List UInt8)))).bind fun x4 => some (.inl (x4, IntKind.i64.wrap (x2 + (1 : Int))))) (some (.inr x1))
noncomputable def M_class_Set_Bytes (p0 : A4_uint64) : Option ((List UInt8)) :=
 (loop (M_class_Set_Bytes_L0 p0) (([] : List UInt8), (0 : Int))).bind fun x3 => some x3
theorem ok_class_Set_Bytes {p0 q0} (hm : M_class_Set_Bytes p0 = some q0) (A : HH g h [] F) (hc : canL (cfg.still 45) av = [.agg [.int .u64 p0.w0, .int .u64 p0.w1, .int .u64 p0.w2, .int .u64 p0.w3]] := by kernel_rfl) : ∃ v h', Runs cfg g h 45 av v h' ∧ v = .str q0 ∧ HH g h' [] F := by
 refine rq1 20 [.tmp 2] hc ?_
 clear hc
 unfold M_class_Set_Bytes at hm
 refine bg 20 [(0, .agg [.int .u64 p0.w0, .int .u64 p0.w1, .int .u64 p0.w2, .int .u64 p0.w3])] fun fr H => ?_
 refine aw_sr 2 ?_
 obtain ⟨h1, e1, A⟩ := A.pu (.cells none 2 [.int .u64 p0.w0, .int .u64 p0.w1, .int .u64 p0.w2, .int .u64 p0.w3])
 refine at_ln 1 (.ptr (some (h.size, 0))) e1 H fun fr t H => ?_
 refine at_es 1 [] 1 H (fun _ => id) fun fr H => ?_
 refine at_el 1 [(3, .slice none 0)] H (fun _ => id) fun fr H => ?_
 refine aw_sq ?_
 refine aw_sr 1 ?_
 refine at_el 1 [(5, .int .i64 0)] H (fun _ => id) fun fr H => ?_
 refine aw_block (id := 0) (by kernel_rfl) ?_
 replace A : HH g h1 [.lst none 5 (lst eY ([] : List UInt8)), .obj h.size (.cells none 2 [.int .u64 p0.w0, .int .u64 p0.w1, .int .u64 p0.w2, .int .u64 p0.w3])] F := A.nilL 5
 obtain ⟨o1, ho, hm⟩ := bind_some hm
 refine aw_mono (Q' := fun e fr' h' => (∃ x3, e = .exit 0 ∧ x3 = o1 ∧ ∃ r2, Has fr' 20 [(3, rowV r2 x3.length)] ∧ HH g h' [.lst r2 5 (lst eY x3), .obj h.size (.cells none 2 [.int .u64 p0.w0, .int .u64 p0.w1, .int .u64 p0.w2, .int .u64 p0.w3])] F) ∨ False) ?_ ?_
 ·refine aw_loop (by kernel_rfl) (fun (s : (List UInt8) × Int) fr' h' => ∃ x1 x2, (x1, x2) = s ∧ ∃ r1, Has fr' 20 [(1, .ptr (some (h.size, 0))), (3, rowV r1 x1.length), (5, .int .i64 x2)] ∧ HH g h' [.lst r1 5 (lst eY x1), .obj h.size (.cells none 2 [.int .u64 p0.w0, .int .u64 p0.w1, .int .u64 p0.w2, .int .u64 p0.w3])] F) ho ⟨_, _, rfl, none, H.ls, A⟩ ?_
  clear ho hm H A
  intro s q fr h2 hI hm
  obtain ⟨x1, x2, rfl, r1, H, A⟩ := hI
  unfold M_class_Set_Bytes_L0 at hm
  refine aw_sr 1 ?_
  refine at_el 1 [(6, .bool (decide (x2 < (256 : Int))))] H (fun _ => id) fun fr H => ?_
  refine aw_sq ?_
  refine aw_if 6 H hm (fun hb hm H => ?_) fun hb hm H => ?_
  ·refine aw_kn id ?_
   refine aw_sq ?_
   obtain ⟨o2, ho, hm⟩ := bind_some hm
   refine aw_mono (Q' := fun e fr' h' => (∃ x4, e = .normal ∧ x4 = o2 ∧ ∃ r3, Has fr' 20 [(1, .ptr (some (h.size, 0))), (3, rowV r3 x4.length), (5, .int .i64 x2)] ∧ HH g h' [.lst r3 5 (lst eY x4), .obj h.size (.cells none 2 [.int .u64 p0.w0, .int .u64 p0.w1, .int .u64 p0.w2, .int .u64 p0.w3])] F) ∨ False) ?_ ?_
   ·replace hm := ho
    clear ho
    refine aw_block (id := 1) (by kernel_rfl) ?_
    refine aw_sr 2 ?_
    refine at_es 2 [(4, .int .i64 x2)] 4 H (fun _ => id) fun fr H => ?_
    refine at_l1 8 _ _ H (fun fr => .of (s_ldA (by kernel_rfl) (A.ldA 1 rfl (o := 0) (n := 4) ⟨Nat.le_of_ble_eq_true rfl, rfl⟩))) fun fr t H => ?_
    obtain ⟨x5, hx, hm⟩ := bind_some hm
    obtain ⟨v1, h3, hr, rfl, A1⟩ := ok_class_Set_Has (av := [.agg [.int .u64 p0.w0, .int .u64 p0.w1, .int .u64 p0.w2, .int .u64 p0.w3], .int .u8 (IntKind.u8.wrap x2)]) hx (A.cut 0)
    replace A := A.g00 A1
    refine at_gc1 2 [] 11 hr H fun fr t H => ?_
    refine at_nl id ?_
    refine aw_if 11 H hm (fun hb hm H => ?_) fun hb hm H => ?_
    ·refine aw_rg 6 ?_
     refine at_sl 3 [(12, rowV r1 x1.length), (14, .int .u8 (IntKind.u8.wrap x2))] H fun fr H => ?_
     obtain ⟨x6, hx, hm⟩ := bind_some hm
     have hx := toY_eq hx
     rw [hx] at H
     obtain ⟨h4, e2, A⟩ := A.pL 5 [.int .u8 (x6.toNat : Int)]
     refine at_ln 15 (rowV (some h3.size) (([x6] : List UInt8).length)) e2 H fun fr t H => ?_
     obtain ⟨hb, hm⟩ := need_some hm
     obtain ⟨r4, h5, hx, A1⟩ := HH.appO encY (by decide) A 1 (xs := x1) (ys := ([x6] : List UInt8)) rfl (row_first A 0 rfl (n := ([x6] : List UInt8).length) (z := 1) rfl (by decide)) rfl rfl hb
     replace A : HH g h5 [.lst (some h3.size) 5 ([.int .u8 (x6.toNat : Int)]), .lst r4 5 (lst eY (x1 ++ ([x6] : List UInt8))), _] F := A1
     replace A := A.k2 1 2
     refine at_l1 16 _ _ H (fun fr => .of (s_app (s := rowS r1 x1.length) (by kernel_rfl) hx)) fun fr t H => ?_
     refine at_se 1 [(1, .ptr (some (h.size, 0))), (3, rowV r4 ((x1 ++ ([x6] : List UInt8)).length)), (5, .int .i64 x2)] H fun fr H => ?_
     refine at_nil ?_
     exact .inl ⟨_, rfl, injA hm, _, H.ls, A⟩
    refine aw_sk ?_
    exact .inl ⟨_, rfl, injA hm, _, H.ls, A⟩
   clear ho
   clear A
   intro e fr h6 hQ
   rcases hQ with ⟨x4, rfl, rfl, r3, H, A⟩ | hF
   ·show AW _ _ _ _ _ _ _
    refine aw_rg 2 ?_
    refine at_se 2 [(1, .ptr (some (h.size, 0))), (3, rowV r3 x4.length), (5, .int .i64 (IntKind.i64.wrap (x2 + (1 : Int))))] H fun fr H => ?_
    refine at_nil ?_
    exact nx hm ⟨_, _, rfl, _, H.ls, A⟩
   exact hF.elim
  refine aw_exit (i := 0) (by kernel_rfl) ?_
  exact nr hm fun e => .inl ⟨_, rfl, e, _, H.ls, A⟩
 clear ho
 clear A
 intro e fr h7 hQ
 rcases hQ with ⟨x3, rfl, rfl, r2, H, A⟩ | hF
 ·show AW _ _ _ _ _ _ _
  refine aw_sr 3 ?_
  refine at_sl 1 [(18, rowV r2 x3.length)] H fun fr H => ?_
  refine at_l1 19 (.str x3) h7 H (fun fr => .of (s_byO (xs := x3) A 0 rfl (by kernel_rfl))) fun fr t H => ?_
  refine at_el 1 [(2, .str x3)] H (fun _ => id) fun fr H => ?_
  refine aw_rt ?_
  obtain rfl := injA hm
  refine ⟨.inl rfl, .str x3, rH H, ?_⟩
  replace A := A.d0
  exact ⟨rfl, A⟩
 exact hF.elim
noncomputable def M_boulterlaw18_Plain_L0 (p0 : S_tree_Tree) (s : (List S_boulterref18_Node) × Int) : Option (((List S_boulterref18_Node) × Int) ⊕ (((List S_boulterref18_Node)))) :=
 match s with
 | (x1, x2) => iteB (decide (x2 < (p0.Nodes.length : Int))) ((ixV p0.Nodes x2).bind fun x4 => (M_class_Set_Bytes x4.Set).bind fun x5 => need (okN 64 (x1.length + ([(⟨x4.Kind, x4.A, x4.B, x4.Min, x4.Max, x4.Group, x5⟩ : S_boulterref18_Node)] : List S_boulterref18_Node).length)) <| some (.inl ((x1 ++ ([(⟨x4.Kind, x4.A, x4.B, x4.Min, x4.Max, x4.Group, x5⟩ : S_boulterref18_Node)] : List S_boulterref18_Node)), IntKind.i64.wrap (x2 + (1 : Int))))) (some (.inr x1))
noncomputable def M_boulterlaw18_Plain (p0 : S_tree_Tree) : Option (S_boulterref18_Tree) :=
 (loop (M_boulterlaw18_Plain_L0 p0) (([] : List S_boulterref18_Node), (0 : Int))).bind fun x3 => some (⟨x3, p0.Root⟩ : S_boulterref18_Tree)
theorem ok_boulterlaw18_Plain {p0 q0} (hm : M_boulterlaw18_Plain p0 = some q0) (A : HH g h [] F) (hc : canL (cfg.still 14) av = [.agg [vs e_S_tree_Node p0.Nodes, .int .i64 p0.Root]] := by kernel_rfl) : ∃ v h', Runs cfg g h 14 av v h' ∧ v = .agg [vs e_S_boulterref18_Node q0.L, .int .i64 q0.Root] ∧ HH g h' [] F := by
 refine rq7 39 [.cell 2 39] hc ?_
 clear hc
 unfold M_boulterlaw18_Plain at hm
 refine bg 39 [(0, .agg [vs e_S_tree_Node p0.Nodes, .int .i64 p0.Root])] fun fr H => ?_
 refine aw_sr 2 ?_
 obtain ⟨h1, e1, A⟩ := A.pu (.cells none 2 [vs e_S_tree_Node p0.Nodes, .int .i64 p0.Root])
 refine at_ln 1 (.ptr (some (h.size, 0))) e1 H fun fr t H => ?_
 obtain ⟨h2, e2, A⟩ := A.pu (.cells none 2 [.slice none 0, .int .i64 0])
 refine at_ln 2 (.ptr (some (h1.size, 0))) e2 H fun fr t H => ?_
 refine at_ns 5 id ?_
 refine at_gl 1 [] 7 1 1 A H fun fr t H => ?_
 obtain ⟨h3, e3, A⟩ := A.pu (.cells none 2 [.slice none 0, .int .i64 0])
 refine at_gn 1 [(8, .agg [.slice none 0, .int .i64 p0.Root])] 3 (.ptr (some (h2.size, 0))) e3 H fun fr t H => ?_
 obtain ⟨h4, hx, A1⟩ := A.st 0 rfl (o := 0) (new := [.slice none 0, .int .i64 p0.Root]) (ds := [.slice none 0, .int .i64 p0.Root]) (Nat.le_of_ble_eq_true rfl) rfl rfl
 replace A : HH g h4 [.obj h2.size (.cells none 2 [.slice none 0, .int .i64 p0.Root]), .obj h1.size (.cells none 2 [.slice none 0, .int .i64 0]), .obj h.size (.cells none 2 [vs e_S_tree_Node p0.Nodes, .int .i64 p0.Root])] F := A1
 refine at_lS hx H fun fr t H => ?_
 refine at_nl id ?_
 refine aw_sq ?_
 refine aw_sr 4 ?_
 refine at_gl 1 [] 10 2 0 A H fun fr t H => ?_
 refine at_el 2 [(11, .int .i64 (p0.Nodes.length : Int)), (12, .int .i64 0)] H (fun _ => id) fun fr H => ?_
 refine aw_block (id := 0) (by kernel_rfl) ?_
 replace A : HH g h4 [.lst none 96 (lst e_S_boulterref18_Node ([] : List S_boulterref18_Node)), _, _, _] F := A.nilL 96
 obtain ⟨o1, ho, hm⟩ := bind_some hm
 refine aw_mono (Q' := fun e fr' h' => (∃ x3, e = .exit 0 ∧ x3 = o1 ∧ ∃ r2, Has fr' 39 [(2, .ptr (some (h1.size, 0))), (3, .ptr (some (h2.size, 0)))] ∧ HH g h' [.lst r2 96 (lst e_S_boulterref18_Node x3), .obj h2.size (.cells none 2 [rowV r2 x3.length, .int .i64 p0.Root]), .obj h1.size (.cells none 2 [.slice none 0, .int .i64 0]), .obj h.size (.cells none 2 [vs e_S_tree_Node p0.Nodes, .int .i64 p0.Root])] F) ∨ False) ?_ ?_
 ·refine aw_loop (by kernel_rfl) (fun (s : (List S_boulterref18_Node) × Int) fr' h' => ∃ x1 x2, (x1, x2) = s ∧ ∃ r1, Has fr' 39 [(2, .ptr (some (h1.size, 0))), (3, .ptr (some (h2.size, 0))), (10, vs e_S_tree_Node p0.Nodes), (11, .int .i64 (p0.Nodes.length : Int)), (12, .int .i64 x2)] ∧ HH g h' [.lst r1 96 (lst e_S_boulterref18_Node x1), .obj h2.size (.cells none 2 [rowV r1 x1.length, .int .i64 p0.Root]), .obj h1.size (.cells none 2 [.slice none 0, .int .i64 0]), .obj h.size (.cells none 2 [vs e_S_tree_Node p0.Nodes, .int .i64 p0.Root])] F) ho ⟨_, _, rfl, none, H.ls, A⟩ ?_
  clear ho hm H A
  intro s q fr h5 hI hm
  obtain ⟨x1, x2, rfl, r1, H, A⟩ := hI
  unfold M_boulterlaw18_Plain_L0 at hm
  refine aw_sr 1 ?_
  refine at_el 1 [(13, .bool (decide (x2 < (p0.Nodes.length : Int))))] H (fun _ => id) fun fr H => ?_
  refine aw_sq ?_
  refine aw_if 13 H hm (fun hb hm H => ?_) fun hb hm H => ?_
  ·refine aw_kn id ?_
   refine aw_sq ?_
   refine aw_block (id := 1) (by kernel_rfl) ?_
   refine aw_sr 4 ?_
   obtain ⟨x4, hx, hm⟩ := bind_some hm
   refine at_l1 14 (.vptr (e_S_tree_Node x4)) h5 H (fun fr => .of (s_ixV (e := e_S_tree_Node) (x := x4) enc_S_tree_Node (by decide) (by kernel_rfl) hx)) fun fr t H => ?_
   refine at_l1 15 (.agg (e_S_tree_Node x4)) h5 H (fun fr => .of (s_lv (by kernel_rfl))) fun fr t H => ?_
   obtain ⟨h6, e4, A⟩ := A.pu (.cells none 2 [.int .i64 0, .int .i64 0, .int .i64 0, .int .i64 0, .int .i64 0, .int .i64 0, .int .u64 0, .int .u64 0, .int .u64 0, .int .u64 0])
   refine at_ln 5 (.ptr (some (h5.size, 0))) e4 H fun fr t H => ?_
   obtain ⟨h7, hx, A⟩ := A.s0 0 [.int .i64 x4.Kind, .int .i64 x4.A, .int .i64 x4.B, .int .i64 x4.Min, .int .i64 x4.Max, .int .i64 x4.Group, .int .u64 x4.Set.w0, .int .u64 x4.Set.w1, .int .u64 x4.Set.w2, .int .u64 x4.Set.w3] [_, _, _, _, _, _, _, _, _, _]
   refine at_lS hx H fun fr t H => ?_
   refine at_nl id ?_
   refine aw_dw 5 22 [(0, []), (1, []), (2, []), (3, []), (4, []), (5, []), (6, []), (7, []), (8, []), (9, []), (10, []), (11, []), (12, []), (13, []), (14, []), (15, []), (16, [1, 3, 5, 7, 9, 11, 13]), (17, []), (18, []), (19, []), (20, []), (21, [])] ?_
   refine at_sl 1 [(16, .ptr (some (h2.size, 0)))] H fun fr H => ?_
   refine at_t1 17 (rowV r1 x1.length) h7 [(1, h2.size)] (g.prot) H (fun fr => .of (s_ld (by kernel_rfl) (A.l1 2 0))) (fun fr H => ?_)
   refine at_sl 1 [(18, .ptr (some (h5.size, 0)))] H fun fr H => ?_
   refine at_t1 19 (.int .i64 x4.Kind) h7 [(3, h5.size), (1, h2.size)] (g.prot) H (fun fr => .of (s_ld (by kernel_rfl) (A.l1 0 0))) (fun fr H => ?_)
   refine at_sl 1 [(20, .ptr (some (h5.size, 1)))] H fun fr H => ?_
   refine at_t1 21 (.int .i64 x4.A) h7 [(5, h5.size), (3, h5.size), (1, h2.size)] (g.prot) H (fun fr => .of (s_ld (by kernel_rfl) (A.l1 0 1))) (fun fr H => ?_)
   refine at_sl 1 [(22, .ptr (some (h5.size, 2)))] H fun fr H => ?_
   refine at_t1 23 (.int .i64 x4.B) h7 [(7, h5.size), (5, h5.size), (3, h5.size), (1, h2.size)] (g.prot) H (fun fr => .of (s_ld (by kernel_rfl) (A.l1 0 2))) (fun fr H => ?_)
   refine at_sl 1 [(24, .ptr (some (h5.size, 3)))] H fun fr H => ?_
   refine at_t1 25 (.int .i64 x4.Min) h7 [(9, h5.size), (7, h5.size), (5, h5.size), (3, h5.size), (1, h2.size)] (g.prot) H (fun fr => .of (s_ld (by kernel_rfl) (A.l1 0 3))) (fun fr H => ?_)
   refine at_sl 1 [(26, .ptr (some (h5.size, 4)))] H fun fr H => ?_
   refine at_t1 27 (.int .i64 x4.Max) h7 [(11, h5.size), (9, h5.size), (7, h5.size), (5, h5.size), (3, h5.size), (1, h2.size)] (g.prot) H (fun fr => .of (s_ld (by kernel_rfl) (A.l1 0 4))) (fun fr H => ?_)
   refine at_sl 1 [(28, .ptr (some (h5.size, 5)))] H fun fr H => ?_
   refine at_t1 29 (.int .i64 x4.Group) h7 [(13, h5.size), (11, h5.size), (9, h5.size), (7, h5.size), (5, h5.size), (3, h5.size), (1, h2.size)] (g.prot) H (fun fr => .of (s_ld (by kernel_rfl) (A.l1 0 5))) (fun fr H => ?_)
   refine at_sl 1 [(30, .ptr (some (h5.size, 6)))] H fun fr H => ?_
   refine at_t1 31 (.agg [.int .u64 x4.Set.w0, .int .u64 x4.Set.w1, .int .u64 x4.Set.w2, .int .u64 x4.Set.w3]) h7 [(15, h5.size), (13, h5.size), (11, h5.size), (9, h5.size), (7, h5.size), (5, h5.size), (3, h5.size), (1, h2.size)] (g.prot) H (fun fr => .of (s_ldA (by kernel_rfl) (A.la 0 6 4))) (fun fr H => ?_)
   have A1 := A.prot2 0 (pr := [h5.size, h5.size, h5.size, h5.size, h5.size, h5.size, h2.size]) (.cons 0 rfl (by simp [Ck.ids]) (.cons 0 rfl (by simp [Ck.ids]) (.cons 0 rfl (by simp [Ck.ids]) (.cons 0 rfl (by simp [Ck.ids]) (.cons 0 rfl (by simp [Ck.ids]) (.cons 0 rfl (by simp [Ck.ids]) (.cons 2 rfl (by simp [Ck.ids]) .nil)))))))
   obtain ⟨x5, hx, hm⟩ := bind_some hm
   obtain ⟨v1, h8, hr, rfl, A1⟩ := ok_class_Set_Bytes (av := [.agg [.int .u64 x4.Set.w0, .int .u64 x4.Set.w1, .int .u64 x4.Set.w2, .int .u64 x4.Set.w3]]) hx A1
   replace A := A.p00 A1
   refine at_t1 32 (.str x5) h8 [(15, h5.size), (13, h5.size), (11, h5.size), (9, h5.size), (7, h5.size), (5, h5.size), (3, h5.size), (1, h2.size)] (h5.size :: h5.size :: h5.size :: h5.size :: h5.size :: h5.size :: h2.size :: g.prot) H (fun fr => Steps.call (by kernel_rfl) hr) (fun fr H => ?_)
   refine at_sl 1 [(33, .agg [.int .i64 x4.Kind, .int .i64 x4.A, .int .i64 x4.B, .int .i64 x4.Min, .int .i64 x4.Max, .int .i64 x4.Group, .str x5])] H fun fr H => ?_
   obtain ⟨h9, e5, A⟩ := A.pL 96 [.int .i64 x4.Kind, .int .i64 x4.A, .int .i64 x4.B, .int .i64 x4.Min, .int .i64 x4.Max, .int .i64 x4.Group, .str x5]
   refine at_t1 34 (rowV (some h8.size) (([(⟨x4.Kind, x4.A, x4.B, x4.Min, x4.Max, x4.Group, x5⟩ : S_boulterref18_Node)] : List S_boulterref18_Node).length)) h9 [(18, h8.size), (15, h5.size), (13, h5.size), (11, h5.size), (9, h5.size), (7, h5.size), (5, h5.size), (3, h5.size), (1, h2.size)] (g.prot) H (fun fr => .of (s_n' (by kernel_rfl) (congrArg some e5.symm))) (fun fr H => ?_)
   obtain ⟨hb, hm⟩ := need_some hm
   obtain ⟨r3, h10, hx, A1⟩ := HH.appO enc_S_boulterref18_Node (by decide) A 2 (xs := x1) (ys := ([(⟨x4.Kind, x4.A, x4.B, x4.Min, x4.Max, x4.Group, x5⟩ : S_boulterref18_Node)] : List S_boulterref18_Node)) rfl (row_first A 0 rfl (n := ([(⟨x4.Kind, x4.A, x4.B, x4.Min, x4.Max, x4.Group, x5⟩ : S_boulterref18_Node)] : List S_boulterref18_Node).length) (z := 7) rfl (by decide)) rfl rfl hb
   replace A : HH g h10 [.lst (some h8.size) 96 ([.int .i64 x4.Kind, .int .i64 x4.A, .int .i64 x4.B, .int .i64 x4.Min, .int .i64 x4.Max, .int .i64 x4.Group, .str x5]), _, .lst r3 96 (lst e_S_boulterref18_Node (x1 ++ ([(⟨x4.Kind, x4.A, x4.B, x4.Min, x4.Max, x4.Group, x5⟩ : S_boulterref18_Node)] : List S_boulterref18_Node))), _, _, _] F := A1
   replace A := A.k5 1 2 3 4 5
   refine at_t1 35 (rowV r3 ((x1 ++ ([(⟨x4.Kind, x4.A, x4.B, x4.Min, x4.Max, x4.Group, x5⟩ : S_boulterref18_Node)] : List S_boulterref18_Node)).length)) h10 [(18, h8.size), (15, h5.size), (13, h5.size), (11, h5.size), (9, h5.size), (7, h5.size), (5, h5.size), (3, h5.size), (1, h2.size)] (g.prot) H (fun fr => .of (s_app (s := rowS r1 x1.length) (by kernel_rfl) hx)) (fun fr H => ?_)
   refine at_sl 1 [(36, .ptr (some (h2.size, 0)))] H fun fr H => ?_
   obtain ⟨h11, hx, A1⟩ := A.st 2 rfl (o := 0) (new := [rowV r3 ((x1 ++ ([(⟨x4.Kind, x4.A, x4.B, x4.Min, x4.Max, x4.Group, x5⟩ : S_boulterref18_Node)] : List S_boulterref18_Node)).length)]) (ds := [rowV r3 ((x1 ++ ([(⟨x4.Kind, x4.A, x4.B, x4.Min, x4.Max, x4.Group, x5⟩ : S_boulterref18_Node)] : List S_boulterref18_Node)).length), .int .i64 p0.Root]) (Nat.le_of_ble_eq_true rfl) rfl rfl
   replace A : HH g h11 [_, _, .obj h2.size (.cells none 2 [rowV r3 ((x1 ++ ([(⟨x4.Kind, x4.A, x4.B, x4.Min, x4.Max, x4.Group, x5⟩ : S_boulterref18_Node)] : List S_boulterref18_Node)).length), .int .i64 p0.Root]), _, _] F := A1
   refine at_t0 (.tuple []) h11 [(18, h8.size), (15, h5.size), (13, h5.size), (11, h5.size), (9, h5.size), (7, h5.size), (5, h5.size), (3, h5.size), (1, h2.size)] (g.prot) H (fun fr => .of (s_st (by kernel_rfl) rfl hx)) (fun fr H => ?_)
   refine at_nr 2 id ?_
   refine at_se 2 [(2, .ptr (some (h1.size, 0))), (3, .ptr (some (h2.size, 0))), (10, vs e_S_tree_Node p0.Nodes), (11, .int .i64 (p0.Nodes.length : Int)), (12, .int .i64 (IntKind.i64.wrap (x2 + (1 : Int))))] H fun fr H => ?_
   refine at_nil ?_
   replace A := A.k4 1 2 3 4
   exact nx hm ⟨_, _, rfl, _, H.ls, A⟩
  refine aw_exit (i := 0) (by kernel_rfl) ?_
  exact nr hm fun e => .inl ⟨_, rfl, e, _, H.ls, A⟩
 clear ho
 clear A
 intro e fr h12 hQ
 rcases hQ with ⟨x3, rfl, rfl, r2, H, A⟩ | hF
 ·show AW _ _ _ _ _ _ _
  refine aw_sr 2 ?_
  refine at_l1 38 _ _ H (fun fr => .of (s_ldA (by kernel_rfl) (A.ldA 1 rfl (o := 0) (n := 2) ⟨Nat.le_of_ble_eq_true rfl, rfl⟩))) fun fr t H => ?_
  obtain ⟨h13, hx, A⟩ := A.s2 0 [rowV r2 x3.length, .int .i64 p0.Root] [_, _]
  refine at_lS hx H fun fr t H => ?_
  refine at_nl id ?_
  refine aw_rt ?_
  obtain rfl := injA hm
  refine ⟨.inl rfl, .agg [rowV r2 x3.length, .int .i64 p0.Root], resL_one (.cell (rT H) (load_ldA (by kernel_rfl) (by kernel_rfl) (A.la 2 0 2)) .nil), ?_⟩
  obtain ⟨h14, hz0, A1⟩ := (A.front 0 rfl).frz (n := x3.length) (z := 7) (enc_S_boulterref18_Node.lenL _) (by decide)
  replace A : HH g h14 [_, _, _] F := A1
  refine ⟨.agg [vs e_S_boulterref18_Node x3, .int .i64 p0.Root], h14, by first | rfl | (simp only [fz3T, fz3A, fz3B, fz3R, fz2A, fz2R, fz2V, fz2I, fz2B, fz2S, fz2N, fzL0, fzL1, fz1I, fz1B, fz1S, fz1V, fz1N, Option.map_some, hz0] <;> rfl), ?_⟩
  replace A := A.d0
  exact ⟨rfl, A⟩
 exact hF.elim
noncomputable def M_boulterref18_Small_L0 (p0 : S_boulterref18_Tree) (s : (List Int) × Int × Int) : Option (((List Int) × Int × Int) ⊕ ((Unit) ⊕ (Bool))) :=
 match s with
 | (x1, x2, x3) => iteB (decide (x3 < (p0.L.length : Int))) ((ixV p0.L x3).bind fun x5 => (iteB (x5.Kind == (4 : Int)) (some (IntKind.i64.wrap (x2 + (1 : Int)))) (some x2) : Option ((Int))).bind fun x6 => iteB (decide (x6 > (4 : Int))) (some (.inr (.inr false))) (iteB ((decide (x5.Min > (4 : Int))) || (decide (x5.Max > (5 : Int)))) (some (.inr (.inr false))) ((iteB ((decide (x5.A ≥ (0 : Int))) && (decide (x5.A < x3))) ((ixV x1 x5.A).bind fun x8 => some (IntKind.i64.wrap ((1 : Int) + x8))) (some (1 : Int)) : Option ((Int))).bind fun x7 => (iteB ((decide (x5.B ≥ (0 : Int))) && (decide (x5.B < x3))) ((ixV x1 x5.B).bind fun x10 => some (IntKind.i64.wrap (x7 + x10))) (some x7) : Option ((Int))).bind fun x9 => iteB (decide (x9 > (40 : Int))) (some (.inr (.inr false))) (need (okN 8 (x1.length + ([x9] : List Int).length)) <| some (.inl ((x1 ++ ([x9] : List Int)), x6, IntKind.i64.wrap (x3 + (1 : Int)))))))) (some (.inr (.inl ())))
noncomputable def M_boulterref18_Small (p0 : S_boulterref18_Tree) : Option (Bool) :=
 iteB (decide ((p0.L.length : Int) > (12 : Int))) (some false) ((loop (M_boulterref18_Small_L0 p0) (([] : List Int), (0 : Int), (0 : Int))).bind fun o1 => (match o1 with | .inl _ => some true | .inr x4 => some x4))
theorem ok_boulterref18_Small {p0 q0} (hm : M_boulterref18_Small p0 = some q0) (A : HH g h [] F) (hc : canL (cfg.still 15) av = [.agg [vs e_S_boulterref18_Node p0.L, .int .i64 p0.Root]] := by kernel_rfl) : ∃ v h', Runs cfg g h 15 av v h' ∧ v = .bool q0 ∧ HH g h' [] F := by
 refine rq1 78 [.tmp 2] hc ?_
 clear hc
 unfold M_boulterref18_Small at hm
 refine bg 78 [(0, .agg [vs e_S_boulterref18_Node p0.L, .int .i64 p0.Root])] fun fr H => ?_
 refine aw_sr 2 ?_
 obtain ⟨h1, e1, A⟩ := A.pu (.cells none 2 [vs e_S_boulterref18_Node p0.L, .int .i64 p0.Root])
 refine at_ln 1 (.ptr (some (h.size, 0))) e1 H fun fr t H => ?_
 refine at_el 1 [] H (fun _ => id) fun fr H => ?_
 refine aw_sq ?_
 refine aw_sr 4 ?_
 refine at_gl 1 [] 9 0 0 A H fun fr t H => ?_
 refine at_el 2 [(11, .bool (decide ((p0.L.length : Int) > (12 : Int))))] H (fun _ => id) fun fr H => ?_
 refine aw_if 11 H hm (fun hb hm H => ?_) fun hb hm H => ?_
 ·refine aw_sr 1 ?_
  refine at_el 1 [(2, .bool false)] H (fun _ => id) fun fr H => ?_
  refine aw_rt ?_
  obtain rfl := injA hm
  refine ⟨.inl rfl, .bool false, rH H, ?_⟩
  replace A := A.d0
  exact ⟨rfl, A⟩
 refine aw_ks 2 id ?_
 obtain ⟨h2, e2, A⟩ := A.pL 3 []
 refine at_ln 12 (rowV (some h1.size) (([] : List Int).length)) e2 H fun fr t H => ?_
 refine at_es 1 [(3, rowV (some h1.size) (([] : List Int).length))] 1 H (fun _ => id) fun fr H => ?_
 refine at_el 1 [(4, .int .i64 0)] H (fun _ => id) fun fr H => ?_
 refine aw_sq ?_
 refine aw_sr 1 ?_
 refine at_el 1 [(5, .int .i64 0)] H (fun _ => id) fun fr H => ?_
 refine aw_block (id := 0) (by kernel_rfl) ?_
 replace A : HH g h2 [.lst (some h1.size) 3 (lst (eI .i64) ([] : List Int)), .obj h.size (.cells none 2 [vs e_S_boulterref18_Node p0.L, .int .i64 p0.Root])] F := A
 obtain ⟨o1, ho, hm⟩ := bind_some hm
 refine aw_mono (Q' := fun e fr' h' => (e = .exit 0 ∧ .inl () = o1 ∧ Has fr' 78 [] ∧ HH g h' [.obj h.size (.cells none 2 [vs e_S_boulterref18_Node p0.L, .int .i64 p0.Root])] F) ∨ (∃ x4, e = .ret ∧ .inr x4 = o1 ∧ Has fr' 78 [(2, .bool x4)] ∧ HH g h' [.obj h.size (.cells none 2 [vs e_S_boulterref18_Node p0.L, .int .i64 p0.Root])] F) ∨ False) ?_ ?_
 ·refine aw_loop (by kernel_rfl) (fun (s : (List Int) × Int × Int) fr' h' => ∃ x1 x2 x3, (x1, x2, x3) = s ∧ ∃ r1, Has fr' 78 [(1, .ptr (some (h.size, 0))), (3, rowV r1 x1.length), (4, .int .i64 x2), (5, .int .i64 x3)] ∧ HH g h' [.lst r1 3 (lst (eI .i64) x1), .obj h.size (.cells none 2 [vs e_S_boulterref18_Node p0.L, .int .i64 p0.Root])] F) ho ⟨_, _, _, rfl, some h1.size, H.ls, A⟩ ?_
  clear ho hm H A
  intro s q fr h3 hI hm
  obtain ⟨x1, x2, x3, rfl, r1, H, A⟩ := hI
  unfold M_boulterref18_Small_L0 at hm
  refine aw_sq ?_
  refine aw_sr 5 ?_
  refine at_gl 2 [(13, .int .i64 x3)] 15 1 0 A H fun fr t H => ?_
  refine at_el 2 [(17, .bool (decide (x3 < (p0.L.length : Int))))] H (fun _ => id) fun fr H => ?_
  refine aw_if 17 H hm (fun hb hm H => ?_) fun hb hm H => ?_
  ·refine aw_kn id ?_
   refine aw_sq ?_
   refine aw_block (id := 1) (by kernel_rfl) ?_
   refine aw_sr 7 ?_
   refine at_gl 1 [] 21 1 0 A H fun fr t H => ?_
   obtain ⟨x5, hx, hm⟩ := bind_some hm
   refine at_g1 1 [] 23 (.vptr (e_S_boulterref18_Node x5)) h3 H (fun fr => .of (s_ixV (e := e_S_boulterref18_Node) (x := x5) enc_S_boulterref18_Node (by decide) (by kernel_rfl) hx)) fun fr t H => ?_
   refine at_l1 24 (.agg (e_S_boulterref18_Node x5)) h3 H (fun fr => .of (s_lv (by kernel_rfl))) fun fr t H => ?_
   obtain ⟨h4, e3, A⟩ := A.pu (.cells none 2 [.int .i64 0, .int .i64 0, .int .i64 0, .int .i64 0, .int .i64 0, .int .i64 0, .str ([] : List UInt8)])
   refine at_ln 6 (.ptr (some (h3.size, 0))) e3 H fun fr t H => ?_
   obtain ⟨h5, hx, A⟩ := A.s0 0 [.int .i64 x5.Kind, .int .i64 x5.A, .int .i64 x5.B, .int .i64 x5.Min, .int .i64 x5.Max, .int .i64 x5.Group, .str x5.S] [_, _, _, _, _, _, _]
   refine at_lS hx H fun fr t H => ?_
   refine at_nl id ?_
   refine aw_sq ?_
   obtain ⟨o2, ho, hm⟩ := bind_some hm
   refine aw_mono (Q' := fun e fr' h' => (∃ x6, e = .normal ∧ x6 = o2 ∧ Has fr' 78 [(1, .ptr (some (h.size, 0))), (3, rowV r1 x1.length), (4, .int .i64 x6), (5, .int .i64 x3), (6, .ptr (some (h3.size, 0)))] ∧ HH g h' [.obj h3.size (.cells none 2 (e_S_boulterref18_Node x5)), .lst r1 3 (lst (eI .i64) x1), .obj h.size (.cells none 2 [vs e_S_boulterref18_Node p0.L, .int .i64 p0.Root])] F) ∨ False) ?_ ?_
   ·replace hm := ho
    clear ho
    refine aw_sr 3 ?_
    refine at_gl 1 [] 26 0 0 A H fun fr t H => ?_
    refine at_el 1 [(27, .bool (x5.Kind == (4 : Int)))] H (fun _ => id) fun fr H => ?_
    refine aw_if 27 H hm (fun hb hm H => ?_) fun hb hm H => ?_
    ·refine aw_rg 3 ?_
     refine at_se 3 [(1, .ptr (some (h.size, 0))), (3, rowV r1 x1.length), (4, .int .i64 (IntKind.i64.wrap (x2 + (1 : Int)))), (5, .int .i64 x3), (6, .ptr (some (h3.size, 0)))] H fun fr H => ?_
     refine at_nil ?_
     exact .inl ⟨_, rfl, injA hm, H.ls, A⟩
    refine aw_sk ?_
    exact .inl ⟨_, rfl, injA hm, H.ls, A⟩
   clear ho
   clear A
   intro e fr h6 hQ
   rcases hQ with ⟨x6, rfl, rfl, H, A⟩ | hF
   ·show AW _ _ _ _ _ _ _
    refine aw_sq ?_
    refine aw_sr 2 ?_
    refine at_el 2 [(31, .bool (decide (x6 > (4 : Int))))] H (fun _ => id) fun fr H => ?_
    refine aw_if 31 H hm (fun hb hm H => ?_) fun hb hm H => ?_
    ·refine aw_sr 1 ?_
     refine at_el 1 [(2, .bool false)] H (fun _ => id) fun fr H => ?_
     refine aw_rt ?_
     replace A := A.k1 2
     exact nr hm fun e => Or.inr (.inl ⟨_, rfl, e, H.ls, A⟩)
    refine aw_kn id ?_
    refine aw_sq ?_
    refine aw_sr 8 ?_
    refine at_gl 1 [] 33 0 3 A H fun fr t H => ?_
    refine at_sl 2 [(35, .bool (decide (x5.Min > (4 : Int))))] H fun fr H => ?_
    refine at_cl 4 (fun fr' h' => h6 = h' ∧ Has fr' 78 [(1, .ptr (some (h.size, 0))), (3, rowV r1 x1.length), (4, .int .i64 x6), (5, .int .i64 x3), (6, .ptr (some (h3.size, 0))), (39, .bool ((decide (x5.Min > (4 : Int))) || (decide (x5.Max > (5 : Int)))))]) ?_ ?_
    ·cases hb : (decide (x5.Min > (4 : Int)) : Bool) with
     | true =>
      replace H := H.kn 35 hb
      refine at_sl 4 [(39, .bool true)] H fun fr H => ?_
      exact at_zb H hb
     | false =>
      replace H := H.kn 35 hb
      refine at_gl 1 [] 37 0 4 A H fun fr t H => ?_
      refine at_sl 2 [(39, .bool (decide (x5.Max > (5 : Int))))] H fun fr H => ?_
      exact at_zb H hb
    intro t fr h' hK
    obtain ⟨e, H⟩ := hK
    subst e
    refine at_nl id ?_
    refine aw_if 39 H hm (fun hb hm H => ?_) fun hb hm H => ?_
    ·refine aw_sr 1 ?_
     refine at_el 1 [(2, .bool false)] H (fun _ => id) fun fr H => ?_
     refine aw_rt ?_
     replace A := A.k1 2
     exact nr hm fun e => Or.inr (.inl ⟨_, rfl, e, H.ls, A⟩)
    refine aw_ks 1 id ?_
    refine at_el 1 [(7, .int .i64 1)] H (fun _ => id) fun fr H => ?_
    refine aw_sq ?_
    obtain ⟨o3, ho, hm⟩ := bind_some hm
    refine aw_mono (Q' := fun e fr' h' => (∃ x7, e = .normal ∧ x7 = o3 ∧ Has fr' 78 [(1, .ptr (some (h.size, 0))), (3, rowV r1 x1.length), (4, .int .i64 x6), (5, .int .i64 x3), (6, .ptr (some (h3.size, 0))), (7, .int .i64 x7)] ∧ HH g h' [.obj h3.size (.cells none 2 (e_S_boulterref18_Node x5)), .lst r1 3 (lst (eI .i64) x1), .obj h.size (.cells none 2 [vs e_S_boulterref18_Node p0.L, .int .i64 p0.Root])] F) ∨ False) ?_ ?_
    ·replace hm := ho
     clear ho
     refine aw_sr 9 ?_
     refine at_gl 1 [] 41 0 1 A H fun fr t H => ?_
     refine at_sl 2 [(43, .bool (decide (x5.A ≥ (0 : Int))))] H fun fr H => ?_
     refine at_cl 5 (fun fr' h' => h6 = h' ∧ Has fr' 78 [(1, .ptr (some (h.size, 0))), (3, rowV r1 x1.length), (4, .int .i64 x6), (5, .int .i64 x3), (6, .ptr (some (h3.size, 0))), (7, .int .i64 1), (48, .bool ((decide (x5.A ≥ (0 : Int))) && (decide (x5.A < x3))))]) ?_ ?_
     ·cases hb : (decide (x5.A ≥ (0 : Int)) : Bool) with
      | true =>
       replace H := H.kn 43 hb
       refine at_gl 1 [] 45 0 1 A H fun fr t H => ?_
       refine at_sl 3 [(48, .bool (decide (x5.A < x3)))] H fun fr H => ?_
       exact at_zb H hb
      | false =>
       replace H := H.kn 43 hb
       refine at_sl 5 [(48, .bool false)] H fun fr H => ?_
       exact at_zb H hb
     intro t fr h' hK
     obtain ⟨e, H⟩ := hK
     subst e
     refine at_nl id ?_
     refine aw_if 48 H hm (fun hb hm H => ?_) fun hb hm H => ?_
     ·refine aw_rg 8 ?_
      refine at_gl 3 [(49, .int .i64 (1 : Int)), (50, rowV r1 x1.length)] 52 0 1 A H fun fr t H => ?_
      obtain ⟨x8, hx, hm⟩ := bind_some hm
      obtain ⟨i1, er1, _, hx, hq1⟩ := HH.ixO (encI .i64) (by decide) A 1 (xs := x1) rfl hx
      refine at_l1 53 (.ptr (some (i1, x5.A.toNat * 1))) h6 H (fun fr => .of (s_ixL (s := rowS r1 x1.length) (by kernel_rfl) hx)) fun fr t H => ?_
      refine at_l1 54 _ _ H (fun fr => .of (s_ld (by kernel_rfl) (row_ld1 (encI .i64) (HH.row A 1 rfl er1) hq1 (o := 0) rfl))) fun fr t H => ?_
      refine at_se 2 [(1, .ptr (some (h.size, 0))), (3, rowV r1 x1.length), (4, .int .i64 x6), (5, .int .i64 x3), (6, .ptr (some (h3.size, 0))), (7, .int .i64 (IntKind.i64.wrap ((1 : Int) + x8)))] H fun fr H => ?_
      refine at_nil ?_
      exact .inl ⟨_, rfl, injA hm, H.ls, A⟩
     refine aw_sk ?_
     exact .inl ⟨_, rfl, injA hm, H.ls, A⟩
    clear ho
    clear A
    intro e fr h7 hQ
    rcases hQ with ⟨x7, rfl, rfl, H, A⟩ | hF
    ·show AW _ _ _ _ _ _ _
     refine aw_sq ?_
     obtain ⟨o4, ho, hm⟩ := bind_some hm
     refine aw_mono (Q' := fun e fr' h' => (∃ x9, e = .normal ∧ x9 = o4 ∧ Has fr' 78 [(1, .ptr (some (h.size, 0))), (3, rowV r1 x1.length), (4, .int .i64 x6), (5, .int .i64 x3), (7, .int .i64 x9)] ∧ HH g h' [.obj h3.size (.cells none 2 (e_S_boulterref18_Node x5)), .lst r1 3 (lst (eI .i64) x1), .obj h.size (.cells none 2 [vs e_S_boulterref18_Node p0.L, .int .i64 p0.Root])] F) ∨ False) ?_ ?_
     ·replace hm := ho
      clear ho
      refine aw_sr 9 ?_
      refine at_gl 1 [] 57 0 2 A H fun fr t H => ?_
      refine at_sl 2 [(59, .bool (decide (x5.B ≥ (0 : Int))))] H fun fr H => ?_
      refine at_cl 5 (fun fr' h' => h7 = h' ∧ Has fr' 78 [(1, .ptr (some (h.size, 0))), (3, rowV r1 x1.length), (4, .int .i64 x6), (5, .int .i64 x3), (6, .ptr (some (h3.size, 0))), (7, .int .i64 x7), (64, .bool ((decide (x5.B ≥ (0 : Int))) && (decide (x5.B < x3))))]) ?_ ?_
      ·cases hb : (decide (x5.B ≥ (0 : Int)) : Bool) with
       | true =>
        replace H := H.kn 59 hb
        refine at_gl 1 [] 61 0 2 A H fun fr t H => ?_
        refine at_sl 3 [(64, .bool (decide (x5.B < x3)))] H fun fr H => ?_
        exact at_zb H hb
       | false =>
        replace H := H.kn 59 hb
        refine at_sl 5 [(64, .bool false)] H fun fr H => ?_
        exact at_zb H hb
      intro t fr h' hK
      obtain ⟨e, H⟩ := hK
      subst e
      refine at_nl id ?_
      refine aw_if 64 H hm (fun hb hm H => ?_) fun hb hm H => ?_
      ·refine aw_rg 8 ?_
       refine at_gl 3 [(65, .int .i64 x7), (66, rowV r1 x1.length)] 68 0 2 A H fun fr t H => ?_
       obtain ⟨x10, hx, hm⟩ := bind_some hm
       obtain ⟨i2, er2, _, hx, hq2⟩ := HH.ixO (encI .i64) (by decide) A 1 (xs := x1) rfl hx
       refine at_l1 69 (.ptr (some (i2, x5.B.toNat * 1))) h7 H (fun fr => .of (s_ixL (s := rowS r1 x1.length) (by kernel_rfl) hx)) fun fr t H => ?_
       refine at_l1 70 _ _ H (fun fr => .of (s_ld (by kernel_rfl) (row_ld1 (encI .i64) (HH.row A 1 rfl er2) hq2 (o := 0) rfl))) fun fr t H => ?_
       refine at_se 2 [(1, .ptr (some (h.size, 0))), (3, rowV r1 x1.length), (4, .int .i64 x6), (5, .int .i64 x3), (7, .int .i64 (IntKind.i64.wrap (x7 + x10)))] H fun fr H => ?_
       refine at_nil ?_
       exact .inl ⟨_, rfl, injA hm, H.ls, A⟩
      refine aw_sk ?_
      exact .inl ⟨_, rfl, injA hm, H.ls, A⟩
     clear ho
     clear A
     intro e fr h8 hQ
     rcases hQ with ⟨x9, rfl, rfl, H, A⟩ | hF
     ·show AW _ _ _ _ _ _ _
      refine aw_sq ?_
      refine aw_sr 2 ?_
      refine at_el 2 [(73, .bool (decide (x9 > (40 : Int))))] H (fun _ => id) fun fr H => ?_
      refine aw_if 73 H hm (fun hb hm H => ?_) fun hb hm H => ?_
      ·refine aw_sr 1 ?_
       refine at_el 1 [(2, .bool false)] H (fun _ => id) fun fr H => ?_
       refine aw_rt ?_
       replace A := A.k1 2
       exact nr hm fun e => Or.inr (.inl ⟨_, rfl, e, H.ls, A⟩)
      refine aw_kr 5 id ?_
      refine at_sl 2 [(74, rowV r1 x1.length), (75, .int .i64 x9)] H fun fr H => ?_
      obtain ⟨h9, e4, A⟩ := A.pL 3 [.int .i64 x9]
      refine at_ln 76 (rowV (some h8.size) (([x9] : List Int).length)) e4 H fun fr t H => ?_
      obtain ⟨hb, hm⟩ := need_some hm
      obtain ⟨r2, h10, hx, A1⟩ := HH.appO (encI .i64) (by decide) A 2 (xs := x1) (ys := ([x9] : List Int)) rfl (row_first A 0 rfl (n := ([x9] : List Int).length) (z := 1) rfl (by decide)) rfl rfl hb
      replace A : HH g h10 [.lst (some h8.size) 3 ([.int .i64 x9]), _, .lst r2 3 (lst (eI .i64) (x1 ++ ([x9] : List Int))), _] F := A1
      replace A := A.k3 1 2 3
      refine at_l1 77 _ _ H (fun fr => .of (s_app (s := rowS r1 x1.length) (by kernel_rfl) hx)) fun fr t H => ?_
      refine at_se 1 [(1, .ptr (some (h.size, 0))), (3, rowV r2 ((x1 ++ ([x9] : List Int)).length)), (4, .int .i64 x6), (5, .int .i64 x3)] H fun fr H => ?_
      refine at_nr 3 id ?_
      refine at_se 3 [(1, .ptr (some (h.size, 0))), (3, rowV r2 ((x1 ++ ([x9] : List Int)).length)), (4, .int .i64 x6), (5, .int .i64 (IntKind.i64.wrap (x3 + (1 : Int))))] H fun fr H => ?_
      refine at_nil ?_
      replace A := A.k2 1 2
      exact nx hm ⟨_, _, _, rfl, _, H.ls, A⟩
     exact hF.elim
    exact hF.elim
   exact hF.elim
  refine aw_exit (i := 0) (by kernel_rfl) ?_
  replace A := A.k1 1
  exact nr hm fun e => .inl ⟨rfl, e, H.ls, A⟩
 clear ho
 clear A
 intro e fr h11 hQ
 rcases hQ with ⟨rfl, rfl, H, A⟩ | ⟨x4, rfl, rfl, H, A⟩ | hF
 ·show AW _ _ _ _ _ _ _
  refine aw_sr 1 ?_
  refine at_el 1 [(2, .bool true)] H (fun _ => id) fun fr H => ?_
  refine aw_rt ?_
  obtain rfl := injA hm
  refine ⟨.inl rfl, .bool true, rH H, ?_⟩
  replace A := A.d0
  exact ⟨rfl, A⟩
 ·obtain rfl := injA hm
  refine ⟨.inl rfl, .bool x4, rH H, ?_⟩
  replace A := A.d0
  exact ⟨rfl, A⟩
 exact hF.elim
noncomputable def M_rex_walk_ok_sPO (p0 : S_rex_walk) : Option (Bool) :=
 some (decide (p0.wrong_ < (0 : Int)))
theorem ok_rex_walk_ok_sPO {p0 bp0 rp0_3 q0} (hm : M_rex_walk_ok_sPO p0 = some q0) (A : HH g h [.obj bp0 (.cells none 2 [.str p0.s_, .int .i64 p0.at_, .bool p0.extended_, rowV rp0_3 p0.t_.Nodes.length, .int .i64 p0.t_.Root, .int .i64 p0.groups_, .int .i64 p0.depth_, .int .i64 p0.wrong_, .bool p0.full_]), .lst rp0_3 68 (lst e_S_tree_Node p0.t_.Nodes)] F) (hc : canL (cfg.still 37) av = [.ptr (some (bp0, 0))] := by kernel_rfl) : ∃ v h', Runs cfg g h 37 av v h' ∧ v = .bool q0 ∧ HH g h' [.obj bp0 (.cells none 2 [.str p0.s_, .int .i64 p0.at_, .bool p0.extended_, rowV rp0_3 p0.t_.Nodes.length, .int .i64 p0.t_.Root, .int .i64 p0.groups_, .int .i64 p0.depth_, .int .i64 p0.wrong_, .bool p0.full_]), .lst rp0_3 68 (lst e_S_tree_Node p0.t_.Nodes)] F := by
 refine rq1 8 [.tmp 2] hc ?_
 clear hc
 unfold M_rex_walk_ok_sPO at hm
 refine bg 8 [(0, .ptr (some (bp0, 0)))] fun fr H => ?_
 refine aw_sr 1 ?_
 refine at_es 1 [] 6 H (fun _ => id) fun fr H => ?_
 refine at_gl 3 [] 6 0 7 A H fun fr t H => ?_
 refine at_el 2 [(2, .bool (decide (p0.wrong_ < (0 : Int))))] H (fun _ => id) fun fr H => ?_
 refine aw_rt ?_
 obtain rfl := injA hm
 exact ⟨.inl rfl, _, rH H, rfl, A⟩
noncomputable def M_stringslite_HasPrefix (p0 : List UInt8) (p1 : List UInt8) : Option (Bool) :=
 (iteB (decide ((p0.length : Int) ≥ (p1.length : Int))) ((subS p0 none (some (p1.length : Int))).bind fun x2 => some (x2 == p1)) (some false) : Option (Bool)).bind fun x1 => some x1
theorem ok_stringslite_HasPrefix {p0 p1 q0} (hm : M_stringslite_HasPrefix p0 p1 = some q0) (A : HH g h [] F) (hc : canL (cfg.still 98) av = [.str p0, .str p1] := by kernel_rfl) : ∃ v h', Runs cfg g h 98 av v h' ∧ v = .bool q0 ∧ HH g h' [] F := by
 refine rq1 18 [.tmp 4] hc ?_
 clear hc
 unfold M_stringslite_HasPrefix at hm
 refine bg 18 [(0, .str p0), (1, .str p1)] fun fr H => ?_
 refine aw_sr 1 ?_
 refine at_es 1 [] 14 H (fun _ => id) fun fr H => ?_
 refine at_sl 6 [(10, .bool (decide ((p0.length : Int) ≥ (p1.length : Int))))] H fun fr H => ?_
 obtain ⟨x1, ho, hm⟩ := bind_some hm
 refine at_cl 7 (fun fr' h' => Has fr' 18 [(17, .bool x1)] ∧ HH g h' [] F) ?_ ?_
 ·rcases iteB_some ho with ⟨hb, hm⟩ | ⟨hb, hm⟩
  ·replace H := H.kn 10 hb
   obtain ⟨x2, hx, hm⟩ := bind_some hm
   refine at_g1 3 [] 14 (.str x2) h H (fun fr => .of (s_subS (k := .i64) (k' := .i64) (lo := none) (hi := (some (p1.length : Int))) (by kernel_rfl) hx)) fun fr t H => ?_
   refine at_sl 3 [(17, .bool (x2 == p1))] H fun fr H => ?_
   obtain rfl := injA hm
   exact at_nil ⟨H.ls, A⟩
  replace H := H.kn 10 hb
  refine at_sl 7 [(17, .bool false)] H fun fr H => ?_
  obtain rfl := injA hm
  exact at_nil ⟨H.ls, A⟩
 clear A
 intro t fr h1 hK
 obtain ⟨H, A⟩ := hK
 refine at_el 1 [(4, .bool x1)] H (fun _ => id) fun fr H => ?_
 refine aw_rt ?_
 obtain rfl := injA hm
 exact ⟨.inl rfl, _, rH H, rfl, A⟩
noncomputable def M_strings_HasPrefix (p0 : List UInt8) (p1 : List UInt8) : Option (Bool) :=
 (M_stringslite_HasPrefix p0 p1).bind fun x1 => some x1
theorem ok_strings_HasPrefix {p0 p1 q0} (hm : M_strings_HasPrefix p0 p1 = some q0) (A : HH g h [] F) (hc : canL (cfg.still 88) av = [.str p0, .str p1] := by kernel_rfl) : ∃ v h', Runs cfg g h 88 av v h' ∧ v = .bool q0 ∧ HH g h' [] F := by
 refine rq1 8 [.tmp 4] hc ?_
 clear hc
 unfold M_strings_HasPrefix at hm
 refine bg 8 [(0, .str p0), (1, .str p1)] fun fr H => ?_
 refine aw_sr 1 ?_
 refine at_es 1 [] 4 H (fun _ => id) fun fr H => ?_
 obtain ⟨x1, hx, hm⟩ := bind_some hm
 obtain ⟨v1, h1, hr, rfl, A1⟩ := ok_stringslite_HasPrefix (av := [.str p0, .str p1]) hx (A.cut 0)
 replace A := A.g00 A1
 refine at_gc1 2 [] 7 hr H fun fr t H => ?_
 refine at_el 1 [(4, .bool x1)] H (fun _ => id) fun fr H => ?_
 refine aw_rt ?_
 obtain rfl := injA hm
 exact ⟨.inl rfl, _, rH H, rfl, A⟩
noncomputable def M_rex_walk_sign_sPOS (p0 : S_rex_walk) (p1 : List UInt8) : Option (Bool) :=
 (iteB (!p0.extended_) (need (decide (([92] : List UInt8).length + p1.length ≤ 9223372036854775807)) <| some (([92] : List UInt8) ++ p1)) (some p1) : Option (((List UInt8)))).bind fun x1 => (subS p0.s_ (some p0.at_) none).bind fun x2 => (M_strings_HasPrefix x2 x1).bind fun x3 => some x3
theorem ok_rex_walk_sign_sPOS {p0 p1 bp0 rp0_3 q0} (hm : M_rex_walk_sign_sPOS p0 p1 = some q0) (A : HH g h [.obj bp0 (.cells none 2 [.str p0.s_, .int .i64 p0.at_, .bool p0.extended_, rowV rp0_3 p0.t_.Nodes.length, .int .i64 p0.t_.Root, .int .i64 p0.groups_, .int .i64 p0.depth_, .int .i64 p0.wrong_, .bool p0.full_]), .lst rp0_3 68 (lst e_S_tree_Node p0.t_.Nodes)] F) (hc : canL (cfg.still 78) av = [.ptr (some (bp0, 0)), .str p1] := by kernel_rfl) : ∃ v h', Runs cfg g h 78 av v h' ∧ v = .bool q0 ∧ HH g h' [.obj bp0 (.cells none 2 [.str p0.s_, .int .i64 p0.at_, .bool p0.extended_, rowV rp0_3 p0.t_.Nodes.length, .int .i64 p0.t_.Root, .int .i64 p0.groups_, .int .i64 p0.depth_, .int .i64 p0.wrong_, .bool p0.full_]), .lst rp0_3 68 (lst e_S_tree_Node p0.t_.Nodes)] F := by
 refine rq1 23 [.tmp 4] hc ?_
 clear hc
 unfold M_rex_walk_sign_sPOS at hm
 refine bg 23 [(0, .ptr (some (bp0, 0))), (1, .str p1)] fun fr H => ?_
 refine aw_sr 1 ?_
 refine at_el 1 [] H (fun _ => id) fun fr H => ?_
 refine aw_sq ?_
 obtain ⟨o1, ho, hm⟩ := bind_some hm
 refine aw_mono (Q' := fun e fr' h' => (∃ x1, e = .normal ∧ x1 = o1 ∧ Has fr' 23 [(0, .ptr (some (bp0, 0))), (1, .str x1)] ∧ HH g h' [.obj bp0 (.cells none 2 [.str p0.s_, .int .i64 p0.at_, .bool p0.extended_, rowV rp0_3 p0.t_.Nodes.length, .int .i64 p0.t_.Root, .int .i64 p0.groups_, .int .i64 p0.depth_, .int .i64 p0.wrong_, .bool p0.full_]), .lst rp0_3 68 (lst e_S_tree_Node p0.t_.Nodes)] F) ∨ False) ?_ ?_
 ·replace hm := ho
  clear ho
  refine aw_sr 5 ?_
  refine at_gl 3 [] 8 0 2 A H fun fr t H => ?_
  refine at_el 1 [(9, .bool (!p0.extended_))] H (fun _ => id) fun fr H => ?_
  refine aw_if 9 H hm (fun hb hm H => ?_) fun hb hm H => ?_
  ·refine aw_rg 3 ?_
   refine at_sl 1 [(10, .str p1)] H fun fr H => ?_
   obtain ⟨hb, hm⟩ := need_some hm
   refine at_l1 11 (.str (([92] : List UInt8) ++ p1)) h H (fun fr => .of (s_cat (by kernel_rfl) hb)) fun fr t H => ?_
   refine at_se 1 [(0, .ptr (some (bp0, 0))), (1, .str (([92] : List UInt8) ++ p1))] H fun fr H => ?_
   refine at_nil ?_
   exact .inl ⟨_, rfl, injA hm, H.ls, A⟩
  refine aw_sk ?_
  exact .inl ⟨_, rfl, injA hm, H.ls, A⟩
 clear ho
 clear A
 intro e fr h1 hQ
 rcases hQ with ⟨x1, rfl, rfl, H, A⟩ | hF
 ·show AW _ _ _ _ _ _ _
  refine aw_sq ?_
  refine aw_dg 3 12 ?_
  refine at_gl 3 [] 15 0 0 A H fun fr t H => ?_
  refine at_gl 3 [] 19 0 1 A H fun fr t H => ?_
  obtain ⟨x2, hx, hm⟩ := bind_some hm
  refine at_l1 20 (.str x2) h1 H (fun fr => .of (s_subS (k := .i64) (k' := .i64) (lo := (some p0.at_)) (hi := none) (by kernel_rfl) hx)) fun fr t H => ?_
  obtain ⟨x3, hx, hm⟩ := bind_some hm
  obtain ⟨v1, h2, hr, rfl, A1⟩ := ok_strings_HasPrefix (av := [.str x2, .str x1]) hx (A.cut 0)
  replace A := A.g00 A1
  refine at_gc1 1 [] 22 hr H fun fr t H => ?_
  refine at_el 1 [(4, .bool x3)] H (fun _ => id) fun fr H => ?_
  refine aw_rt ?_
  obtain rfl := injA hm
  exact ⟨.inl rfl, _, rH H, rfl, A⟩
 exact hF.elim
noncomputable def M_rex_walk_closes_sPO (p0 : S_rex_walk) : Option (Bool) :=
 (iteB (p0.at_ == (p0.s_.length : Int)) (some true) ((M_rex_walk_sign_sPOS p0 ([124] : List UInt8)).bind fun x2 => some x2) : Option (Bool)).bind fun x1 => (iteB x1 (some true) ((M_rex_walk_sign_sPOS p0 ([41] : List UInt8)).bind fun x4 => some x4) : Option (Bool)).bind fun x3 => some x3
theorem ok_rex_walk_closes_sPO {p0 bp0 rp0_3 q0} (hm : M_rex_walk_closes_sPO p0 = some q0) (A : HH g h [.obj bp0 (.cells none 2 [.str p0.s_, .int .i64 p0.at_, .bool p0.extended_, rowV rp0_3 p0.t_.Nodes.length, .int .i64 p0.t_.Root, .int .i64 p0.groups_, .int .i64 p0.depth_, .int .i64 p0.wrong_, .bool p0.full_]), .lst rp0_3 68 (lst e_S_tree_Node p0.t_.Nodes)] F) (hc : canL (cfg.still 73) av = [.ptr (some (bp0, 0))] := by kernel_rfl) : ∃ v h', Runs cfg g h 73 av v h' ∧ v = .bool q0 ∧ HH g h' [.obj bp0 (.cells none 2 [.str p0.s_, .int .i64 p0.at_, .bool p0.extended_, rowV rp0_3 p0.t_.Nodes.length, .int .i64 p0.t_.Root, .int .i64 p0.groups_, .int .i64 p0.depth_, .int .i64 p0.wrong_, .bool p0.full_]), .lst rp0_3 68 (lst e_S_tree_Node p0.t_.Nodes)] F := by
 refine rq1 21 [.tmp 2] hc ?_
 clear hc
 unfold M_rex_walk_closes_sPO at hm
 refine bg 21 [(0, .ptr (some (bp0, 0)))] fun fr H => ?_
 refine aw_sr 1 ?_
 refine at_el 1 [] H (fun _ => id) fun fr H => ?_
 refine aw_sq ?_
 refine aw_dg 1 19 ?_
 refine at_gl 3 [] 6 0 1 A H fun fr t H => ?_
 refine at_gl 3 [] 10 0 0 A H fun fr t H => ?_
 refine at_sl 3 [(13, .bool (p0.at_ == (p0.s_.length : Int)))] H fun fr H => ?_
 obtain ⟨x1, ho, hm⟩ := bind_some hm
 refine at_cl 3 (fun fr' h' => Has fr' 21 [(0, .ptr (some (bp0, 0))), (16, .bool x1)] ∧ HH g h' [.obj bp0 (.cells none 2 [.str p0.s_, .int .i64 p0.at_, .bool p0.extended_, rowV rp0_3 p0.t_.Nodes.length, .int .i64 p0.t_.Root, .int .i64 p0.groups_, .int .i64 p0.depth_, .int .i64 p0.wrong_, .bool p0.full_]), .lst rp0_3 68 (lst e_S_tree_Node p0.t_.Nodes)] F) ?_ ?_
 ·rcases iteB_some ho with ⟨hb, hm⟩ | ⟨hb, hm⟩
  ·replace H := H.kn 13 hb
   refine at_sl 3 [(16, .bool true)] H fun fr H => ?_
   obtain rfl := injA hm
   exact at_nil ⟨H.ls, A⟩
  replace H := H.kn 13 hb
  obtain ⟨x2, hx, hm⟩ := bind_some hm
  obtain ⟨v1, h2, hr, rfl, A1⟩ := ok_rex_walk_sign_sPOS (av := [.ptr (some (bp0, 0)), .str ([124] : List UInt8)]) hx (A.cut 2)
  replace A := A.g22 A1
  refine at_gc1 1 [] 15 hr H fun fr t H => ?_
  refine at_sl 1 [(16, .bool x2)] H fun fr H => ?_
  obtain rfl := injA hm
  exact at_nil ⟨H.ls, A⟩
 clear A
 intro t fr h1 hK
 obtain ⟨H, A⟩ := hK
 refine at_sl 1 [(17, .bool x1)] H fun fr H => ?_
 obtain ⟨x3, ho, hm⟩ := bind_some hm
 refine at_cl 3 (fun fr' h' => Has fr' 21 [(20, .bool x3)] ∧ HH g h' [.obj bp0 (.cells none 2 [.str p0.s_, .int .i64 p0.at_, .bool p0.extended_, rowV rp0_3 p0.t_.Nodes.length, .int .i64 p0.t_.Root, .int .i64 p0.groups_, .int .i64 p0.depth_, .int .i64 p0.wrong_, .bool p0.full_]), .lst rp0_3 68 (lst e_S_tree_Node p0.t_.Nodes)] F) ?_ ?_
 ·rcases iteB_some ho with ⟨hb, hm⟩ | ⟨hb, hm⟩
  ·replace H := H.kn 17 hb
   refine at_sl 3 [(20, .bool true)] H fun fr H => ?_
   obtain rfl := injA hm
   exact at_nil ⟨H.ls, A⟩
  replace H := H.kn 17 hb
  obtain ⟨x4, hx, hm⟩ := bind_some hm
  obtain ⟨v1, h4, hr, rfl, A1⟩ := ok_rex_walk_sign_sPOS (av := [.ptr (some (bp0, 0)), .str ([41] : List UInt8)]) hx (A.cut 2)
  replace A := A.g22 A1
  refine at_gc1 1 [] 19 hr H fun fr t H => ?_
  refine at_sl 1 [(20, .bool x4)] H fun fr H => ?_
  obtain rfl := injA hm
  exact at_nil ⟨H.ls, A⟩
 clear A
 intro t fr h3 hK
 obtain ⟨H, A⟩ := hK
 refine at_el 1 [(2, .bool x3)] H (fun _ => id) fun fr H => ?_
 refine aw_rt ?_
 obtain rfl := injA hm
 exact ⟨.inl rfl, _, rH H, rfl, A⟩
noncomputable def M_class_Set_add (p0 : A4_uint64) (p1 : Int) : Option (A4_uint64) :=
 (ixV ([p0.w0, p0.w1, p0.w2, p0.w3] : List Int) (bShr .u8 p1 (6 : Int))).bind fun x1 => need (decide (0 ≤ (bAnd .u8 p1 (63 : Int)))) <| (ixV ([p0.w0, p0.w1, p0.w2, p0.w3] : List Int) (bShr .u8 p1 (6 : Int))).bind fun x2 => some (⟨(bif (bShr .u8 p1 (6 : Int)) == 0 then bOr .u64 x1 (bShl .u64 (1 : Int) (bAnd .u8 p1 (63 : Int))) else p0.w0), (bif ((bShr .u8 p1 (6 : Int)) - 1) == 0 then bOr .u64 x1 (bShl .u64 (1 : Int) (bAnd .u8 p1 (63 : Int))) else p0.w1), (bif (((bShr .u8 p1 (6 : Int)) - 1) - 1) == 0 then bOr .u64 x1 (bShl .u64 (1 : Int) (bAnd .u8 p1 (63 : Int))) else p0.w2), (bif ((((bShr .u8 p1 (6 : Int)) - 1) - 1) - 1) == 0 then bOr .u64 x1 (bShl .u64 (1 : Int) (bAnd .u8 p1 (63 : Int))) else p0.w3)⟩ : A4_uint64)
theorem ok_class_Set_add {p0 p1 bp0 u0} (hm : M_class_Set_add p0 p1 = some u0) (A : HH g h [.obj bp0 (.cells none 2 [.int .u64 p0.w0, .int .u64 p0.w1, .int .u64 p0.w2, .int .u64 p0.w3])] F) (hc : canL (cfg.still 100) av = [.ptr (some (bp0, 0)), .int .u8 p1] := by kernel_rfl) : ∃ v h', Runs cfg g h 100 av v h' ∧ v = .tuple [] ∧ HH g h' [.obj bp0 (.cells none 2 [.int .u64 u0.w0, .int .u64 u0.w1, .int .u64 u0.w2, .int .u64 u0.w3])] F := by
 refine rq1 16 [] hc ?_
 clear hc
 unfold M_class_Set_add at hm
 refine bg 16 [(0, .ptr (some (bp0, 0))), (1, .int .u8 p1)] fun fr H => ?_
 refine aw_dg 0 13 ?_
 obtain ⟨x1, hq1, hm⟩ := bind_some hm
 refine at_g1 4 [(4, .ptr (some (bp0, 0))), (6, .int .u8 (bShr .u8 p1 (6 : Int)))] 8 (.ptr (some (bp0, 0 + (bShr .u8 p1 (6 : Int)).toNat * 1))) h H (fun fr => .of (s_ixA (by kernel_rfl) (ixA_of hq1 (bp0, 0) 1 rfl))) fun fr t H => ?_
 refine at_l1 9 _ _ H (fun fr => .of (s_ld (by kernel_rfl) (HH.ldW A 0 rfl 0 (fun w : Int => .int .u64 w) [p0.w0, p0.w1, p0.w2, p0.w3] rfl hq1))) fun fr t H => ?_
 refine at_sl 2 [(11, .int .u8 (bAnd .u8 p1 (63 : Int)))] H fun fr H => ?_
 obtain ⟨hb, hm⟩ := need_some hm
 refine at_l1 12 (.int .u64 (bShl .u64 (1 : Int) (bAnd .u8 p1 (63 : Int)))) h H (fun fr => .of (s_shl (by kernel_rfl) hb)) fun fr t H => ?_
 obtain ⟨x2, hq2, hm⟩ := bind_some hm
 refine at_g1 2 [(13, .int .u64 (bOr .u64 x1 (bShl .u64 (1 : Int) (bAnd .u8 p1 (63 : Int)))))] 15 (.ptr (some (bp0, 0 + (bShr .u8 p1 (6 : Int)).toNat * 1))) h H (fun fr => .of (s_ixA (by kernel_rfl) (ixA_of hq2 (bp0, 0) 1 rfl))) fun fr t H => ?_
 obtain ⟨h1, hx, A1⟩ := HH.stW A 0 rfl 0 (fun w : Int => .int .u64 w) [p0.w0, p0.w1, p0.w2, p0.w3] (bOr .u64 x1 (bShl .u64 (1 : Int) (bAnd .u8 p1 (63 : Int)))) (ds := [.int .u64 (bif (bShr .u8 p1 (6 : Int)) == 0 then bOr .u64 x1 (bShl .u64 (1 : Int) (bAnd .u8 p1 (63 : Int))) else p0.w0), .int .u64 (bif ((bShr .u8 p1 (6 : Int)) - 1) == 0 then bOr .u64 x1 (bShl .u64 (1 : Int) (bAnd .u8 p1 (63 : Int))) else p0.w1), .int .u64 (bif (((bShr .u8 p1 (6 : Int)) - 1) - 1) == 0 then bOr .u64 x1 (bShl .u64 (1 : Int) (bAnd .u8 p1 (63 : Int))) else p0.w2), .int .u64 (bif ((((bShr .u8 p1 (6 : Int)) - 1) - 1) - 1) == 0 then bOr .u64 x1 (bShl .u64 (1 : Int) (bAnd .u8 p1 (63 : Int))) else p0.w3)]) rfl hq2 rfl rfl
 replace A : HH g h1 [.obj bp0 (.cells none 2 [.int .u64 (bif (bShr .u8 p1 (6 : Int)) == 0 then bOr .u64 x1 (bShl .u64 (1 : Int) (bAnd .u8 p1 (63 : Int))) else p0.w0), .int .u64 (bif ((bShr .u8 p1 (6 : Int)) - 1) == 0 then bOr .u64 x1 (bShl .u64 (1 : Int) (bAnd .u8 p1 (63 : Int))) else p0.w1), .int .u64 (bif (((bShr .u8 p1 (6 : Int)) - 1) - 1) == 0 then bOr .u64 x1 (bShl .u64 (1 : Int) (bAnd .u8 p1 (63 : Int))) else p0.w2), .int .u64 (bif ((((bShr .u8 p1 (6 : Int)) - 1) - 1) - 1) == 0 then bOr .u64 x1 (bShl .u64 (1 : Int) (bAnd .u8 p1 (63 : Int))) else p0.w3)])] F := A1
 refine at_ls hx H fun fr t H => ?_
 refine at_nil ?_
 obtain rfl := injA hm
 refine ⟨.inr rfl, .tuple [], rH H, ?_⟩
 exact ⟨rfl, A⟩
noncomputable def M_class_Range_L0 (p1 : Int) (s : Int × Int × Int × Int × Int) : Option ((Int × Int × Int × Int × Int) ⊕ ((Int × Int × Int × Int))) :=
 match s with
 | (x1, x2, x3, x4, x5) => iteB (decide (x5 ≤ (IntKind.i64.wrap p1))) ((M_class_Set_add (⟨x1, x2, x3, x4⟩ : A4_uint64) (IntKind.u8.wrap x5)).bind fun x10 => some (.inl (x10.w0, x10.w1, x10.w2, x10.w3, IntKind.i64.wrap (x5 + (1 : Int))))) (some (.inr (x1, x2, x3, x4)))
noncomputable def M_class_Range (p0 : Int) (p1 : Int) : Option (A4_uint64) :=
 (loop (M_class_Range_L0 p1) ((0 : Int), (0 : Int), (0 : Int), (0 : Int), IntKind.i64.wrap p0)).bind fun (x6, x7, x8, x9) => some (⟨x6, x7, x8, x9⟩ : A4_uint64)
theorem ok_class_Range {p0 p1 q0} (hm : M_class_Range p0 p1 = some q0) (A : HH g h [] F) (hc : canL (cfg.still 90) av = [.int .u8 p0, .int .u8 p1] := by kernel_rfl) : ∃ v h', Runs cfg g h 90 av v h' ∧ v = .agg [.int .u64 q0.w0, .int .u64 q0.w1, .int .u64 q0.w2, .int .u64 q0.w3] ∧ HH g h' [] F := by
 refine rq1 19 [.cell 4 66] hc ?_
 clear hc
 unfold M_class_Range at hm
 refine bg 19 [(0, .int .u8 p0), (1, .int .u8 p1)] fun fr H => ?_
 refine aw_sr 1 ?_
 obtain ⟨h1, e1, A⟩ := A.pu (.cells none 2 [.int .u64 0, .int .u64 0, .int .u64 0, .int .u64 0])
 refine at_ln 4 (.ptr (some (h.size, 0))) e1 H fun fr t H => ?_
 refine at_ns 1 id ?_
 obtain ⟨h2, e2, A⟩ := A.pu (.cells none 2 [.int .u64 0, .int .u64 0, .int .u64 0, .int .u64 0])
 refine at_ln 5 (.ptr (some (h1.size, 0))) e2 H fun fr t H => ?_
 refine at_nl id ?_
 refine aw_sq ?_
 refine aw_sr 3 ?_
 refine at_el 3 [(6, .int .i64 (IntKind.i64.wrap p0))] H (fun _ => id) fun fr H => ?_
 refine aw_block (id := 0) (by kernel_rfl) ?_
 obtain ⟨o1, ho, hm⟩ := bind_some hm
 refine aw_mono (Q' := fun e fr' h' => (∃ x6 x7 x8 x9, e = .exit 0 ∧ (x6, x7, x8, x9) = o1 ∧ Has fr' 19 [(4, .ptr (some (h.size, 0))), (5, .ptr (some (h1.size, 0)))] ∧ HH g h' [.obj h1.size (.cells none 2 [.int .u64 x6, .int .u64 x7, .int .u64 x8, .int .u64 x9]), .obj h.size (.cells none 2 [.int .u64 0, .int .u64 0, .int .u64 0, .int .u64 0])] F) ∨ False) ?_ ?_
 ·refine aw_loop (by kernel_rfl) (fun (s : Int × Int × Int × Int × Int) fr' h' => ∃ x1 x2 x3 x4 x5, (x1, x2, x3, x4, x5) = s ∧ Has fr' 19 [(1, .int .u8 p1), (4, .ptr (some (h.size, 0))), (5, .ptr (some (h1.size, 0))), (6, .int .i64 x5)] ∧ HH g h' [.obj h1.size (.cells none 2 [.int .u64 x1, .int .u64 x2, .int .u64 x3, .int .u64 x4]), .obj h.size (.cells none 2 [.int .u64 0, .int .u64 0, .int .u64 0, .int .u64 0])] F) ho ⟨_, _, _, _, _, rfl, H.ls, A⟩ ?_
  clear ho hm H A
  intro s q fr h3 hI hm
  obtain ⟨x1, x2, x3, x4, x5, rfl, H, A⟩ := hI
  unfold M_class_Range_L0 at hm
  refine aw_sq ?_
  refine aw_sr 4 ?_
  refine at_el 4 [(12, .bool (decide (x5 ≤ (IntKind.i64.wrap p1))))] H (fun _ => id) fun fr H => ?_
  refine aw_if 12 H hm (fun hb hm H => ?_) fun hb hm H => ?_
  ·refine aw_kn id ?_
   refine aw_sq ?_
   refine aw_block (id := 1) (by kernel_rfl) ?_
   refine aw_rg 3 ?_
   obtain ⟨x10, hx, hm⟩ := bind_some hm
   obtain ⟨v1, h4, hr, rfl, A1⟩ := ok_class_Set_add (av := [.ptr (some (h1.size, 0)), .int .u8 (IntKind.u8.wrap x5)]) hx (A.cut 1)
   replace A := A.g11 A1
   refine at_gc0 2 [] hr H fun fr t H => ?_
   refine at_nr 3 id ?_
   refine at_se 3 [(1, .int .u8 p1), (4, .ptr (some (h.size, 0))), (5, .ptr (some (h1.size, 0))), (6, .int .i64 (IntKind.i64.wrap (x5 + (1 : Int))))] H fun fr H => ?_
   refine at_nil ?_
   exact nx hm ⟨_, _, _, _, _, rfl, H.ls, A⟩
  refine aw_exit (i := 0) (by kernel_rfl) ?_
  exact nr hm fun e => .inl ⟨_, _, _, _, rfl, e, H.ls, A⟩
 clear ho
 clear A
 intro e fr h5 hQ
 rcases hQ with ⟨x6, x7, x8, x9, rfl, rfl, H, A⟩ | hF
 ·show AW _ _ _ _ _ _ _
  refine aw_sr 2 ?_
  refine at_l1 18 _ _ H (fun fr => .of (s_ldA (by kernel_rfl) (A.ldA 0 rfl (o := 0) (n := 4) ⟨Nat.le_of_ble_eq_true rfl, rfl⟩))) fun fr t H => ?_
  obtain ⟨h6, hx, A⟩ := A.s1 0 [.int .u64 x6, .int .u64 x7, .int .u64 x8, .int .u64 x9] [_, _, _, _]
  refine at_lS hx H fun fr t H => ?_
  refine at_nl id ?_
  refine aw_rt ?_
  obtain rfl := injA hm
  refine ⟨.inl rfl, .agg [.int .u64 x6, .int .u64 x7, .int .u64 x8, .int .u64 x9], resL_one (.cell (rT H) (load_ldA (by kernel_rfl) (by kernel_rfl) (A.la 1 0 4)) .nil), ?_⟩
  replace A := A.d0
  exact ⟨rfl, A⟩
 exact hF.elim
noncomputable def M_tree_bare (p0 : S_tree_Node) : Option (S_tree_Node × Bool) :=
 (iteB (p0.Kind == (0 : Int)) (some true) (iteB (p0.Kind == (6 : Int)) (some true) (some (p0.Kind == (7 : Int)))) : Option ((Bool))).bind fun x1 => iteB x1 (some ((⟨p0.Kind, (0 : Int), (0 : Int), (0 : Int), (0 : Int), (0 : Int), (⟨(0 : Int), (0 : Int), (0 : Int), (0 : Int)⟩ : A4_uint64)⟩ : S_tree_Node), true)) (iteB (p0.Kind == (1 : Int)) (some ((⟨(1 : Int), (0 : Int), (0 : Int), (0 : Int), (0 : Int), (0 : Int), p0.Set⟩ : S_tree_Node), true)) ((iteB (p0.Kind == (2 : Int)) (some true) (some (p0.Kind == (3 : Int))) : Option ((Bool))).bind fun x2 => iteB x2 (some ((⟨p0.Kind, p0.A, p0.B, (0 : Int), (0 : Int), (0 : Int), (⟨(0 : Int), (0 : Int), (0 : Int), (0 : Int)⟩ : A4_uint64)⟩ : S_tree_Node), true)) (iteB (p0.Kind == (4 : Int)) (some ((⟨(4 : Int), p0.A, (0 : Int), p0.Min, p0.Max, (0 : Int), (⟨(0 : Int), (0 : Int), (0 : Int), (0 : Int)⟩ : A4_uint64)⟩ : S_tree_Node), true)) (iteB (p0.Kind == (5 : Int)) (some ((⟨(5 : Int), p0.A, (0 : Int), (0 : Int), (0 : Int), p0.Group, (⟨(0 : Int), (0 : Int), (0 : Int), (0 : Int)⟩ : A4_uint64)⟩ : S_tree_Node), true)) (some ((⟨(0 : Int), (0 : Int), (0 : Int), (0 : Int), (0 : Int), (0 : Int), (⟨(0 : Int), (0 : Int), (0 : Int), (0 : Int)⟩ : A4_uint64)⟩ : S_tree_Node), false))))))
theorem ok_tree_bare {p0 q0 q1} (hm : M_tree_bare p0 = some (q0, q1)) (A : HH g h [] F) (hc : canL (cfg.still 79) av = [.agg (e_S_tree_Node p0)] := by kernel_rfl) : ∃ v h', Runs cfg g h 79 av v h' ∧ v = .tuple [.agg (e_S_tree_Node q0), .bool q1] ∧ HH g h' [] F := by
 refine rq1 45 [.cell 2 68, .tmp 3] hc ?_
 clear hc
 unfold M_tree_bare at hm
 refine bg 45 [(0, .agg (e_S_tree_Node p0))] fun fr H => ?_
 refine aw_sr 3 ?_
 obtain ⟨h1, e1, A⟩ := A.pu (.cells none 2 (e_S_tree_Node p0))
 refine at_ln 1 (.ptr (some (h.size, 0))) e1 H fun fr t H => ?_
 obtain ⟨h2, e2, A⟩ := A.pu (.cells none 2 [.int .i64 0, .int .i64 0, .int .i64 0, .int .i64 0, .int .i64 0, .int .i64 0, .int .u64 0, .int .u64 0, .int .u64 0, .int .u64 0])
 refine at_ln 2 (.ptr (some (h1.size, 0))) e2 H fun fr t H => ?_
 refine at_el 1 [] H (fun _ => id) fun fr H => ?_
 refine aw_sq ?_
 refine aw_sr 2 ?_
 refine at_gl 1 [] 5 1 0 A H fun fr t H => ?_
 refine at_nl id ?_
 refine aw_block (id := 0) (by kernel_rfl) ?_
 refine aw_sq ?_
 obtain ⟨o1, ho, hm⟩ := bind_some hm
 refine aw_mono (Q' := fun e fr' h' => (∃ x1, e = .normal ∧ x1 = o1 ∧ Has fr' 45 [(1, .ptr (some (h.size, 0))), (2, .ptr (some (h1.size, 0))), (5, .int .i64 p0.Kind), (6, .bool x1)] ∧ HH g h' [.obj h1.size (.cells none 2 [.int .i64 0, .int .i64 0, .int .i64 0, .int .i64 0, .int .i64 0, .int .i64 0, .int .u64 0, .int .u64 0, .int .u64 0, .int .u64 0]), .obj h.size (.cells none 2 (e_S_tree_Node p0))] F) ∨ False) ?_ ?_
 ·replace hm := ho
  clear ho
  refine aw_sr 2 ?_
  refine at_el 2 [(6, .bool (p0.Kind == (0 : Int)))] H (fun _ => id) fun fr H => ?_
  refine aw_if 6 H hm (fun hb hm H => ?_) fun hb hm H => ?_
  ·refine aw_sk ?_
   exact .inl ⟨_, rfl, injA hm, H.ls, A⟩
  refine aw_sr 2 ?_
  refine at_se 2 [(1, .ptr (some (h.size, 0))), (2, .ptr (some (h1.size, 0))), (5, .int .i64 p0.Kind), (6, .bool (p0.Kind == (6 : Int)))] H fun fr H => ?_
  refine at_nl id ?_
  refine aw_if 6 H hm (fun hb hm H => ?_) fun hb hm H => ?_
  ·refine aw_sk ?_
   exact .inl ⟨_, rfl, injA hm, H.ls, A⟩
  refine aw_rg 2 ?_
  refine at_se 2 [(1, .ptr (some (h.size, 0))), (2, .ptr (some (h1.size, 0))), (5, .int .i64 p0.Kind), (6, .bool (p0.Kind == (7 : Int)))] H fun fr H => ?_
  refine at_nil ?_
  exact .inl ⟨_, rfl, injA hm, H.ls, A⟩
 clear ho
 clear A
 intro e fr h3 hQ
 rcases hQ with ⟨x1, rfl, rfl, H, A⟩ | hF
 ·show AW _ _ _ _ _ _ _
  refine aw_if 6 H hm (fun hb hm H => ?_) fun hb hm H => ?_
  ·refine aw_sr 5 ?_
   refine at_gl 1 [] 11 1 0 A H fun fr t H => ?_
   obtain ⟨h4, hx, A⟩ := A.s0 0 [.int .i64 p0.Kind, .int .i64 0, .int .i64 0, .int .i64 0, .int .i64 0, .int .i64 0, .int .u64 0, .int .u64 0, .int .u64 0, .int .u64 0] [_, _, _, _, _, _, _, _, _, _]
   refine at_gS 1 [] hx H fun fr t H => ?_
   refine at_el 1 [(3, .bool true)] H (fun _ => id) fun fr H => ?_
   refine aw_rt ?_
   obtain ⟨rfl, rfl⟩ := injB hm
   refine ⟨.inl rfl, .tuple [.agg [.int .i64 p0.Kind, .int .i64 0, .int .i64 0, .int .i64 0, .int .i64 0, .int .i64 0, .int .u64 0, .int .u64 0, .int .u64 0, .int .u64 0], .bool true], resL_many (.cell (rT H) (load_ldA (by kernel_rfl) (by kernel_rfl) (A.la 0 0 10)) (.tmp (rT H) .nil)), ?_⟩
   replace A := A.d0
   exact ⟨rfl, A⟩
  refine aw_sr 2 ?_
  refine at_el 2 [(13, .bool (p0.Kind == (1 : Int)))] H (fun _ => id) fun fr H => ?_
  refine aw_if 13 H hm (fun hb hm H => ?_) fun hb hm H => ?_
  ·refine aw_sr 5 ?_
   refine at_g1 1 [] 16 _ _ H (fun fr => .of (s_ldA (by kernel_rfl) (A.ldA 1 rfl (o := 6) (n := 4) ⟨Nat.le_of_ble_eq_true rfl, rfl⟩))) fun fr t H => ?_
   obtain ⟨h5, hx, A⟩ := A.s0 0 [.int .i64 1, .int .i64 0, .int .i64 0, .int .i64 0, .int .i64 0, .int .i64 0, .int .u64 p0.Set.w0, .int .u64 p0.Set.w1, .int .u64 p0.Set.w2, .int .u64 p0.Set.w3] [_, _, _, _, _, _, _, _, _, _]
   refine at_gS 1 [] hx H fun fr t H => ?_
   refine at_el 1 [(3, .bool true)] H (fun _ => id) fun fr H => ?_
   refine aw_rt ?_
   obtain ⟨rfl, rfl⟩ := injB hm
   refine ⟨.inl rfl, .tuple [.agg [.int .i64 1, .int .i64 0, .int .i64 0, .int .i64 0, .int .i64 0, .int .i64 0, .int .u64 p0.Set.w0, .int .u64 p0.Set.w1, .int .u64 p0.Set.w2, .int .u64 p0.Set.w3], .bool true], resL_many (.cell (rT H) (load_ldA (by kernel_rfl) (by kernel_rfl) (A.la 0 0 10)) (.tmp (rT H) .nil)), ?_⟩
   replace A := A.d0
   exact ⟨rfl, A⟩
  refine aw_sq ?_
  obtain ⟨o2, ho, hm⟩ := bind_some hm
  refine aw_mono (Q' := fun e fr' h' => (∃ x2, e = .normal ∧ x2 = o2 ∧ Has fr' 45 [(1, .ptr (some (h.size, 0))), (2, .ptr (some (h1.size, 0))), (5, .int .i64 p0.Kind), (18, .bool x2)] ∧ HH g h' [.obj h1.size (.cells none 2 [.int .i64 0, .int .i64 0, .int .i64 0, .int .i64 0, .int .i64 0, .int .i64 0, .int .u64 0, .int .u64 0, .int .u64 0, .int .u64 0]), .obj h.size (.cells none 2 (e_S_tree_Node p0))] F) ∨ False) ?_ ?_
  ·replace hm := ho
   clear ho
   refine aw_sr 2 ?_
   refine at_el 2 [(18, .bool (p0.Kind == (2 : Int)))] H (fun _ => id) fun fr H => ?_
   refine aw_if 18 H hm (fun hb hm H => ?_) fun hb hm H => ?_
   ·refine aw_sk ?_
    exact .inl ⟨_, rfl, injA hm, H.ls, A⟩
   refine aw_rg 2 ?_
   refine at_se 2 [(1, .ptr (some (h.size, 0))), (2, .ptr (some (h1.size, 0))), (5, .int .i64 p0.Kind), (18, .bool (p0.Kind == (3 : Int)))] H fun fr H => ?_
   refine at_nil ?_
   exact .inl ⟨_, rfl, injA hm, H.ls, A⟩
  clear ho
  clear A
  intro e fr h6 hQ
  rcases hQ with ⟨x2, rfl, rfl, H, A⟩ | hF
  ·show AW _ _ _ _ _ _ _
   refine aw_if 18 H hm (fun hb hm H => ?_) fun hb hm H => ?_
   ·refine aw_sr 9 ?_
    refine at_gl 1 [] 22 1 0 A H fun fr t H => ?_
    refine at_gl 1 [] 24 1 1 A H fun fr t H => ?_
    refine at_gl 1 [] 26 1 2 A H fun fr t H => ?_
    obtain ⟨h7, hx, A⟩ := A.s0 0 [.int .i64 p0.Kind, .int .i64 p0.A, .int .i64 p0.B, .int .i64 0, .int .i64 0, .int .i64 0, .int .u64 0, .int .u64 0, .int .u64 0, .int .u64 0] [_, _, _, _, _, _, _, _, _, _]
    refine at_gS 1 [] hx H fun fr t H => ?_
    refine at_el 1 [(3, .bool true)] H (fun _ => id) fun fr H => ?_
    refine aw_rt ?_
    obtain ⟨rfl, rfl⟩ := injB hm
    refine ⟨.inl rfl, .tuple [.agg [.int .i64 p0.Kind, .int .i64 p0.A, .int .i64 p0.B, .int .i64 0, .int .i64 0, .int .i64 0, .int .u64 0, .int .u64 0, .int .u64 0, .int .u64 0], .bool true], resL_many (.cell (rT H) (load_ldA (by kernel_rfl) (by kernel_rfl) (A.la 0 0 10)) (.tmp (rT H) .nil)), ?_⟩
    replace A := A.d0
    exact ⟨rfl, A⟩
   refine aw_sr 2 ?_
   refine at_el 2 [(28, .bool (p0.Kind == (4 : Int)))] H (fun _ => id) fun fr H => ?_
   refine aw_if 28 H hm (fun hb hm H => ?_) fun hb hm H => ?_
   ·refine aw_sr 9 ?_
    refine at_gl 1 [] 31 1 1 A H fun fr t H => ?_
    refine at_gl 1 [] 33 1 3 A H fun fr t H => ?_
    refine at_gl 1 [] 35 1 4 A H fun fr t H => ?_
    obtain ⟨h8, hx, A⟩ := A.s0 0 [.int .i64 4, .int .i64 p0.A, .int .i64 0, .int .i64 p0.Min, .int .i64 p0.Max, .int .i64 0, .int .u64 0, .int .u64 0, .int .u64 0, .int .u64 0] [_, _, _, _, _, _, _, _, _, _]
    refine at_gS 1 [] hx H fun fr t H => ?_
    refine at_el 1 [(3, .bool true)] H (fun _ => id) fun fr H => ?_
    refine aw_rt ?_
    obtain ⟨rfl, rfl⟩ := injB hm
    refine ⟨.inl rfl, .tuple [.agg [.int .i64 4, .int .i64 p0.A, .int .i64 0, .int .i64 p0.Min, .int .i64 p0.Max, .int .i64 0, .int .u64 0, .int .u64 0, .int .u64 0, .int .u64 0], .bool true], resL_many (.cell (rT H) (load_ldA (by kernel_rfl) (by kernel_rfl) (A.la 0 0 10)) (.tmp (rT H) .nil)), ?_⟩
    replace A := A.d0
    exact ⟨rfl, A⟩
   refine aw_sr 2 ?_
   refine at_el 2 [(37, .bool (p0.Kind == (5 : Int)))] H (fun _ => id) fun fr H => ?_
   refine aw_if 37 H hm (fun hb hm H => ?_) fun hb hm H => ?_
   ·refine aw_sr 7 ?_
    refine at_gl 1 [] 40 1 1 A H fun fr t H => ?_
    refine at_gl 1 [] 42 1 5 A H fun fr t H => ?_
    obtain ⟨h9, hx, A⟩ := A.s0 0 [.int .i64 5, .int .i64 p0.A, .int .i64 0, .int .i64 0, .int .i64 0, .int .i64 p0.Group, .int .u64 0, .int .u64 0, .int .u64 0, .int .u64 0] [_, _, _, _, _, _, _, _, _, _]
    refine at_gS 1 [] hx H fun fr t H => ?_
    refine at_el 1 [(3, .bool true)] H (fun _ => id) fun fr H => ?_
    refine aw_rt ?_
    obtain ⟨rfl, rfl⟩ := injB hm
    refine ⟨.inl rfl, .tuple [.agg [.int .i64 5, .int .i64 p0.A, .int .i64 0, .int .i64 0, .int .i64 0, .int .i64 p0.Group, .int .u64 0, .int .u64 0, .int .u64 0, .int .u64 0], .bool true], resL_many (.cell (rT H) (load_ldA (by kernel_rfl) (by kernel_rfl) (A.la 0 0 10)) (.tmp (rT H) .nil)), ?_⟩
    replace A := A.d0
    exact ⟨rfl, A⟩
   refine aw_ks 3 id ?_
   obtain ⟨h10, hx, A⟩ := A.s0 0 [.int .i64 0, .int .i64 0, .int .i64 0, .int .i64 0, .int .i64 0, .int .i64 0, .int .u64 0, .int .u64 0, .int .u64 0, .int .u64 0] [_, _, _, _, _, _, _, _, _, _]
   refine at_gS 1 [] hx H fun fr t H => ?_
   refine at_el 1 [(3, .bool false)] H (fun _ => id) fun fr H => ?_
   refine aw_rt ?_
   obtain ⟨rfl, rfl⟩ := injB hm
   refine ⟨.inl rfl, .tuple [.agg [.int .i64 0, .int .i64 0, .int .i64 0, .int .i64 0, .int .i64 0, .int .i64 0, .int .u64 0, .int .u64 0, .int .u64 0, .int .u64 0], .bool false], resL_many (.cell (rT H) (load_ldA (by kernel_rfl) (by kernel_rfl) (A.la 0 0 10)) (.tmp (rT H) .nil)), ?_⟩
   replace A := A.d0
   exact ⟨rfl, A⟩
  exact hF.elim
 exact hF.elim
noncomputable def M_tree_may_1_sIP (p0 : Int) (p1 : Int) : Option (Bool) :=
 some ((decide (p0 ≥ (0 : Int))) && (decide (p0 < p1)))
theorem ok_tree_may_1_sIP {p0 p1 bp1 q0} (hm : M_tree_may_1_sIP p0 p1 = some q0) (A : HH g h [.obj bp1 (.cells none 2 [.int .i64 p1])] F) (hc : canL (cfg.still 80) av = [.int .i64 p0, .ptr (some (bp1, 0))] := by kernel_rfl) : ∃ v h', Runs cfg g h 80 av v h' ∧ v = .bool q0 ∧ HH g h' [.obj bp1 (.cells none 2 [.int .i64 p1])] F := by
 refine rq1 11 [.tmp 3] hc ?_
 clear hc
 unfold M_tree_may_1_sIP at hm
 refine bg 11 [(0, .int .i64 p0), (1, .ptr (some (bp1, 0)))] fun fr H => ?_
 refine aw_sr 1 ?_
 refine at_es 1 [] 8 H (fun _ => id) fun fr H => ?_
 refine at_sl 3 [(6, .bool (decide (p0 ≥ (0 : Int))))] H fun fr H => ?_
 refine at_cl 4 (fun fr' h' => h = h' ∧ Has fr' 11 [(10, .bool ((decide (p0 ≥ (0 : Int))) && (decide (p0 < p1))))]) ?_ ?_
 ·cases hb : (decide (p0 ≥ (0 : Int)) : Bool) with
  | true =>
   replace H := H.kn 6 hb
   refine at_gl 1 [(7, .int .i64 p0)] 8 0 0 A H fun fr t H => ?_
   refine at_sl 2 [(10, .bool (decide (p0 < p1)))] H fun fr H => ?_
   exact at_zb H hb
  | false =>
   replace H := H.kn 6 hb
   refine at_sl 4 [(10, .bool false)] H fun fr H => ?_
   exact at_zb H hb
 intro t fr h' hK
 obtain ⟨e, H⟩ := hK
 subst e
 refine at_el 1 [(3, .bool ((decide (p0 ≥ (0 : Int))) && (decide (p0 < p1))))] H (fun _ => id) fun fr H => ?_
 refine aw_rt ?_
 obtain rfl := injA hm
 exact ⟨.inl rfl, _, rH H, rfl, A⟩
noncomputable def M_tree_may (p0 : S_tree_Node) (p1 : Int) : Option (Bool) :=
 (M_tree_bare p0).bind fun (x1, x2) => (iteB (!x2) (some true) ((eqG cfg.P 68 [.int .i64 x1.Kind, .int .i64 x1.A, .int .i64 x1.B, .int .i64 x1.Min, .int .i64 x1.Max, .int .i64 x1.Group, .int .u64 x1.Set.w0, .int .u64 x1.Set.w1, .int .u64 x1.Set.w2, .int .u64 x1.Set.w3] [.int .i64 p0.Kind, .int .i64 p0.A, .int .i64 p0.B, .int .i64 p0.Min, .int .i64 p0.Max, .int .i64 p0.Group, .int .u64 p0.Set.w0, .int .u64 p0.Set.w1, .int .u64 p0.Set.w2, .int .u64 p0.Set.w3]).bind fun x4 => some (!x4)) : Option (Bool)).bind fun x3 => iteB x3 (some false) ((iteB (p0.Kind == (2 : Int)) (some true) (some (p0.Kind == (3 : Int))) : Option ((Bool))).bind fun x5 => iteB x5 ((M_tree_may_1_sIP p0.A p1).bind fun x6 => (iteB x6 ((M_tree_may_1_sIP p0.B p1).bind fun x8 => some x8) (some false) : Option (Bool)).bind fun x7 => some x7) (iteB (p0.Kind == (4 : Int)) ((M_tree_may_1_sIP p0.A p1).bind fun x9 => some (((x9 && (decide (p0.Min ≥ (0 : Int)))) && (decide (p0.Min ≤ (255 : Int)))) && ((p0.Max == (-1 : Int)) || ((decide (p0.Max ≥ p0.Min)) && (decide (p0.Max ≤ (255 : Int))))))) (iteB (p0.Kind == (5 : Int)) ((M_tree_may_1_sIP p0.A p1).bind fun x10 => some ((x10 && (decide (p0.Group ≥ (1 : Int)))) && (decide (p0.Group ≤ (1024 : Int))))) (some true))))
theorem ok_tree_may {p0 p1 q0} (hm : M_tree_may p0 p1 = some q0) (A : HH g h [] F) (hc : canL (cfg.still 59) av = [.agg (e_S_tree_Node p0), .int .i64 p1] := by kernel_rfl) : ∃ v h', Runs cfg g h 59 av v h' ∧ v = .bool q0 ∧ HH g h' [] F := by
 refine rq1 85 [.tmp 4] hc ?_
 clear hc
 unfold M_tree_may at hm
 refine bg 85 [(0, .agg (e_S_tree_Node p0)), (1, .int .i64 p1)] fun fr H => ?_
 refine aw_sr 3 ?_
 obtain ⟨h1, e1, A⟩ := A.pu (.cells none 2 (e_S_tree_Node p0))
 refine at_ln 2 (.ptr (some (h.size, 0))) e1 H fun fr t H => ?_
 obtain ⟨h2, e2, A⟩ := A.pu (.cells none 2 [.int .i64 p1])
 refine at_ln 3 (.ptr (some (h1.size, 0))) e2 H fun fr t H => ?_
 refine at_el 1 [] H (fun _ => id) fun fr H => ?_
 refine aw_sq ?_
 refine aw_sr 8 ?_
 refine at_l1 9 _ _ H (fun fr => .of (s_ldA (by kernel_rfl) (A.ldA 1 rfl (o := 0) (n := 10) ⟨Nat.le_of_ble_eq_true rfl, rfl⟩))) fun fr t H => ?_
 obtain ⟨⟨x1, x2⟩, hx, hm⟩ := bind_some hm
 obtain ⟨v1, h3, hr, rfl, A1⟩ := ok_tree_bare (av := [.agg (e_S_tree_Node p0)]) hx (A.cut 0)
 replace A : HH g h3 [.obj h1.size (.cells none 2 [.int .i64 p1]), .obj h.size (.cells none 2 (e_S_tree_Node p0))] F := A.glue0 (n := 0) A1
 refine at_lc1 10 hr H fun fr t H => ?_
 obtain ⟨h4, e3, A⟩ := A.pu (.cells none 2 [.int .i64 0, .int .i64 0, .int .i64 0, .int .i64 0, .int .i64 0, .int .i64 0, .int .u64 0, .int .u64 0, .int .u64 0, .int .u64 0])
 refine at_gn 3 [(11, .agg (e_S_tree_Node x1)), (12, .bool x2)] 5 (.ptr (some (h3.size, 0))) e3 H fun fr t H => ?_
 obtain ⟨h5, hx, A⟩ := A.s0 0 [.int .i64 x1.Kind, .int .i64 x1.A, .int .i64 x1.B, .int .i64 x1.Min, .int .i64 x1.Max, .int .i64 x1.Group, .int .u64 x1.Set.w0, .int .u64 x1.Set.w1, .int .u64 x1.Set.w2, .int .u64 x1.Set.w3] [_, _, _, _, _, _, _, _, _, _]
 refine at_lS hx H fun fr t H => ?_
 refine at_es 1 [(6, .bool x2)] 7 H (fun _ => id) fun fr H => ?_
 refine at_sl 3 [(15, .bool (!x2))] H fun fr H => ?_
 obtain ⟨x3, ho, hm⟩ := bind_some hm
 refine at_cl 4 (fun fr' h' => Has fr' 85 [(2, .ptr (some (h.size, 0))), (3, .ptr (some (h1.size, 0))), (19, .bool x3)] ∧ HH g h' [.obj h3.size (.cells none 2 (e_S_tree_Node x1)), .obj h1.size (.cells none 2 [.int .i64 p1]), .obj h.size (.cells none 2 (e_S_tree_Node p0))] F) ?_ ?_
 ·rcases iteB_some ho with ⟨hb, hm⟩ | ⟨hb, hm⟩
  ·replace H := H.kn 15 hb
   refine at_sl 4 [(19, .bool true)] H fun fr H => ?_
   obtain rfl := injA hm
   exact at_nil ⟨H.ls, A⟩
  replace H := H.kn 15 hb
  refine at_l1 16 _ _ H (fun fr => .of (s_ldA (by kernel_rfl) (A.ldA 0 rfl (o := 0) (n := 10) ⟨Nat.le_of_ble_eq_true rfl, rfl⟩))) fun fr t H => ?_
  refine at_l1 17 _ _ H (fun fr => .of (s_ldA (by kernel_rfl) (A.ldA 2 rfl (o := 0) (n := 10) ⟨Nat.le_of_ble_eq_true rfl, rfl⟩))) fun fr t H => ?_
  obtain ⟨x4, hx, hm⟩ := bind_some hm
  refine at_l1 18 (.bool (!x4)) h5 H (fun fr => .of (s_neG (by kernel_rfl) hx)) fun fr t H => ?_
  refine at_sl 1 [(19, .bool (!x4))] H fun fr H => ?_
  obtain rfl := injA hm
  exact at_nil ⟨H.ls, A⟩
 clear A
 intro t fr h6 hK
 obtain ⟨H, A⟩ := hK
 refine at_nl id ?_
 refine aw_if 19 H hm (fun hb hm H => ?_) fun hb hm H => ?_
 ·refine aw_sr 1 ?_
  refine at_el 1 [(4, .bool false)] H (fun _ => id) fun fr H => ?_
  refine aw_rt ?_
  obtain rfl := injA hm
  refine ⟨.inl rfl, .bool false, rH H, ?_⟩
  replace A := A.d0
  exact ⟨rfl, A⟩
 refine aw_ks 2 id ?_
 refine at_el 2 [(7, .func (.func 80) [] [.ptr (some (h1.size, 0))])] H (fun _ => id) fun fr H => ?_
 refine aw_sq ?_
 refine aw_sr 2 ?_
 refine at_gl 1 [] 22 2 0 A H fun fr t H => ?_
 refine at_nl id ?_
 refine aw_block (id := 0) (by kernel_rfl) ?_
 refine aw_sq ?_
 obtain ⟨o1, ho, hm⟩ := bind_some hm
 refine aw_mono (Q' := fun e fr' h' => (∃ x5, e = .normal ∧ x5 = o1 ∧ Has fr' 85 [(2, .ptr (some (h.size, 0))), (7, .func (.func 80) [] [.ptr (some (h1.size, 0))]), (22, .int .i64 p0.Kind), (23, .bool x5)] ∧ HH g h' [.obj h3.size (.cells none 2 (e_S_tree_Node x1)), .obj h1.size (.cells none 2 [.int .i64 p1]), .obj h.size (.cells none 2 (e_S_tree_Node p0))] F) ∨ False) ?_ ?_
 ·replace hm := ho
  clear ho
  refine aw_sr 2 ?_
  refine at_el 2 [(23, .bool (p0.Kind == (2 : Int)))] H (fun _ => id) fun fr H => ?_
  refine aw_if 23 H hm (fun hb hm H => ?_) fun hb hm H => ?_
  ·refine aw_sk ?_
   exact .inl ⟨_, rfl, injA hm, H.ls, A⟩
  refine aw_rg 2 ?_
  refine at_se 2 [(2, .ptr (some (h.size, 0))), (7, .func (.func 80) [] [.ptr (some (h1.size, 0))]), (22, .int .i64 p0.Kind), (23, .bool (p0.Kind == (3 : Int)))] H fun fr H => ?_
  refine at_nil ?_
  exact .inl ⟨_, rfl, injA hm, H.ls, A⟩
 clear ho
 clear A
 intro e fr h7 hQ
 rcases hQ with ⟨x5, rfl, rfl, H, A⟩ | hF
 ·show AW _ _ _ _ _ _ _
  refine aw_if 23 H hm (fun hb hm H => ?_) fun hb hm H => ?_
  ·refine aw_sr 11 ?_
   refine at_gl 2 [(26, .func (.func 80) [] [.ptr (some (h1.size, 0))])] 28 2 1 A H fun fr t H => ?_
   replace A := A.k3 1 0 2
   obtain ⟨x6, hx, hm⟩ := bind_some hm
   obtain ⟨v1, h8, hr, rfl, A1⟩ := ok_tree_may_1_sIP (av := [.int .i64 p0.A, .ptr (some (h1.size, 0))]) hx (A.cut 1)
   replace A := A.g11 A1
   refine at_lc1 29 hr H fun fr t H => ?_
   refine at_sl 1 [(30, .bool x6)] H fun fr H => ?_
   obtain ⟨x7, ho, hm⟩ := bind_some hm
   refine at_cl 5 (fun fr' h' => Has fr' 85 [(35, .bool x7)] ∧ HH g h' [.obj h1.size (.cells none 2 [.int .i64 p1]), .obj h3.size (.cells none 2 (e_S_tree_Node x1)), .obj h.size (.cells none 2 (e_S_tree_Node p0))] F) ?_ ?_
   ·rcases iteB_some ho with ⟨hb, hm⟩ | ⟨hb, hm⟩
    ·replace H := H.kn 30 hb
     refine at_gl 2 [(31, .func (.func 80) [] [.ptr (some (h1.size, 0))])] 33 2 2 A H fun fr t H => ?_
     obtain ⟨x8, hx, hm⟩ := bind_some hm
     obtain ⟨v1, h10, hr, rfl, A1⟩ := ok_tree_may_1_sIP (av := [.int .i64 p0.B, .ptr (some (h1.size, 0))]) hx (A.cut 1)
     replace A := A.g11 A1
     refine at_lc1 34 hr H fun fr t H => ?_
     refine at_sl 1 [(35, .bool x8)] H fun fr H => ?_
     obtain rfl := injA hm
     exact at_nil ⟨H.ls, A⟩
    replace H := H.kn 30 hb
    refine at_sl 5 [(35, .bool false)] H fun fr H => ?_
    obtain rfl := injA hm
    exact at_nil ⟨H.ls, A⟩
   clear A
   intro t fr h9 hK
   obtain ⟨H, A⟩ := hK
   refine at_el 1 [(4, .bool x7)] H (fun _ => id) fun fr H => ?_
   refine aw_rt ?_
   obtain rfl := injA hm
   refine ⟨.inl rfl, .bool x7, rH H, ?_⟩
   replace A := A.d0
   exact ⟨rfl, A⟩
  refine aw_sr 2 ?_
  refine at_el 2 [(36, .bool (p0.Kind == (4 : Int)))] H (fun _ => id) fun fr H => ?_
  refine aw_if 36 H hm (fun hb hm H => ?_) fun hb hm H => ?_
  ·refine aw_sr 32 ?_
   refine at_gl 2 [(38, .func (.func 80) [] [.ptr (some (h1.size, 0))])] 40 2 1 A H fun fr t H => ?_
   replace A := A.k3 1 0 2
   obtain ⟨x9, hx, hm⟩ := bind_some hm
   obtain ⟨v1, h11, hr, rfl, A1⟩ := ok_tree_may_1_sIP (av := [.int .i64 p0.A, .ptr (some (h1.size, 0))]) hx (A.cut 1)
   replace A := A.g11 A1
   refine at_lc1 41 hr H fun fr t H => ?_
   refine at_sl 1 [(42, .bool x9)] H fun fr H => ?_
   refine at_cl 4 (fun fr' h' => h11 = h' ∧ Has fr' 85 [(2, .ptr (some (h.size, 0))), (46, .bool (x9 && (decide (p0.Min ≥ (0 : Int)))))]) ?_ ?_
   ·cases hb : (x9 : Bool) with
    | true =>
     replace H := H.kn 42 hb
     refine at_gl 1 [] 44 2 3 A H fun fr t H => ?_
     refine at_sl 2 [(46, .bool (decide (p0.Min ≥ (0 : Int))))] H fun fr H => ?_
     exact at_zb H hb
    | false =>
     replace H := H.kn 42 hb
     refine at_sl 4 [(46, .bool false)] H fun fr H => ?_
     exact at_zb H hb
   intro t fr h' hK
   obtain ⟨e, H⟩ := hK
   subst e
   refine at_sl 1 [(47, .bool (x9 && (decide (p0.Min ≥ (0 : Int)))))] H fun fr H => ?_
   refine at_cl 4 (fun fr' h' => h11 = h' ∧ Has fr' 85 [(2, .ptr (some (h.size, 0))), (51, .bool ((x9 && (decide (p0.Min ≥ (0 : Int)))) && (decide (p0.Min ≤ (255 : Int)))))]) ?_ ?_
   ·cases hb : (x9 && (decide (p0.Min ≥ (0 : Int))) : Bool) with
    | true =>
     replace H := H.kn 47 hb
     refine at_gl 1 [] 49 2 3 A H fun fr t H => ?_
     refine at_sl 2 [(51, .bool (decide (p0.Min ≤ (255 : Int))))] H fun fr H => ?_
     exact at_zb H hb
    | false =>
     replace H := H.kn 47 hb
     refine at_sl 4 [(51, .bool false)] H fun fr H => ?_
     exact at_zb H hb
   intro t fr h' hK
   obtain ⟨e, H⟩ := hK
   subst e
   refine at_sl 1 [(52, .bool ((x9 && (decide (p0.Min ≥ (0 : Int)))) && (decide (p0.Min ≤ (255 : Int)))))] H fun fr H => ?_
   refine at_cl 16 (fun fr' h' => h11 = h' ∧ Has fr' 85 [(68, .bool (((x9 && (decide (p0.Min ≥ (0 : Int)))) && (decide (p0.Min ≤ (255 : Int)))) && ((p0.Max == (-1 : Int)) || ((decide (p0.Max ≥ p0.Min)) && (decide (p0.Max ≤ (255 : Int)))))))]) ?_ ?_
   ·cases hb : ((x9 && (decide (p0.Min ≥ (0 : Int)))) && (decide (p0.Min ≤ (255 : Int))) : Bool) with
    | true =>
     replace H := H.kn 52 hb
     refine at_gl 1 [] 54 2 4 A H fun fr t H => ?_
     refine at_sl 2 [(56, .bool (p0.Max == (-1 : Int)))] H fun fr H => ?_
     refine at_cl 11 (fun fr' h' => h11 = h' ∧ Has fr' 85 [(52, .bool true), (67, .bool ((p0.Max == (-1 : Int)) || ((decide (p0.Max ≥ p0.Min)) && (decide (p0.Max ≤ (255 : Int))))))]) ?_ ?_
     ·cases hb : (p0.Max == (-1 : Int) : Bool) with
      | true =>
       replace H := H.kn 56 hb
       refine at_sl 11 [(67, .bool true)] H fun fr H => ?_
       exact at_zb H hb
      | false =>
       replace H := H.kn 56 hb
       refine at_gl 1 [] 58 2 4 A H fun fr t H => ?_
       refine at_gl 1 [] 60 2 3 A H fun fr t H => ?_
       refine at_sl 2 [(62, .bool (decide (p0.Max ≥ p0.Min)))] H fun fr H => ?_
       refine at_cl 4 (fun fr' h' => h11 = h' ∧ Has fr' 85 [(52, .bool true), (56, .bool false), (66, .bool ((decide (p0.Max ≥ p0.Min)) && (decide (p0.Max ≤ (255 : Int)))))]) ?_ ?_
       ·cases hb : (decide (p0.Max ≥ p0.Min) : Bool) with
        | true =>
         replace H := H.kn 62 hb
         refine at_gl 1 [] 64 2 4 A H fun fr t H => ?_
         refine at_sl 2 [(66, .bool (decide (p0.Max ≤ (255 : Int))))] H fun fr H => ?_
         exact at_zb H hb
        | false =>
         replace H := H.kn 62 hb
         refine at_sl 4 [(66, .bool false)] H fun fr H => ?_
         exact at_zb H hb
       intro t fr h' hK
       obtain ⟨e, H⟩ := hK
       subst e
       refine at_sl 1 [(67, .bool ((decide (p0.Max ≥ p0.Min)) && (decide (p0.Max ≤ (255 : Int)))))] H fun fr H => ?_
       exact at_zb H hb
     intro t fr h' hK
     obtain ⟨e, H⟩ := hK
     subst e
     refine at_sl 1 [(68, .bool ((p0.Max == (-1 : Int)) || ((decide (p0.Max ≥ p0.Min)) && (decide (p0.Max ≤ (255 : Int))))))] H fun fr H => ?_
     exact at_zb H hb
    | false =>
     replace H := H.kn 52 hb
     refine at_sl 16 [(68, .bool false)] H fun fr H => ?_
     exact at_zb H hb
   intro t fr h' hK
   obtain ⟨e, H⟩ := hK
   subst e
   refine at_el 1 [(4, .bool (((x9 && (decide (p0.Min ≥ (0 : Int)))) && (decide (p0.Min ≤ (255 : Int)))) && ((p0.Max == (-1 : Int)) || ((decide (p0.Max ≥ p0.Min)) && (decide (p0.Max ≤ (255 : Int)))))))] H (fun _ => id) fun fr H => ?_
   refine aw_rt ?_
   obtain rfl := injA hm
   refine ⟨.inl rfl, .bool (((x9 && (decide (p0.Min ≥ (0 : Int)))) && (decide (p0.Min ≤ (255 : Int)))) && ((p0.Max == (-1 : Int)) || ((decide (p0.Max ≥ p0.Min)) && (decide (p0.Max ≤ (255 : Int)))))), rH H, ?_⟩
   replace A := A.d0
   exact ⟨rfl, A⟩
  refine aw_sr 2 ?_
  refine at_el 2 [(69, .bool (p0.Kind == (5 : Int)))] H (fun _ => id) fun fr H => ?_
  refine aw_if 69 H hm (fun hb hm H => ?_) fun hb hm H => ?_
  ·refine aw_sr 15 ?_
   refine at_gl 2 [(71, .func (.func 80) [] [.ptr (some (h1.size, 0))])] 73 2 1 A H fun fr t H => ?_
   replace A := A.k3 1 0 2
   obtain ⟨x10, hx, hm⟩ := bind_some hm
   obtain ⟨v1, h12, hr, rfl, A1⟩ := ok_tree_may_1_sIP (av := [.int .i64 p0.A, .ptr (some (h1.size, 0))]) hx (A.cut 1)
   replace A := A.g11 A1
   refine at_lc1 74 hr H fun fr t H => ?_
   refine at_sl 1 [(75, .bool x10)] H fun fr H => ?_
   refine at_cl 4 (fun fr' h' => h12 = h' ∧ Has fr' 85 [(2, .ptr (some (h.size, 0))), (79, .bool (x10 && (decide (p0.Group ≥ (1 : Int)))))]) ?_ ?_
   ·cases hb : (x10 : Bool) with
    | true =>
     replace H := H.kn 75 hb
     refine at_gl 1 [] 77 2 5 A H fun fr t H => ?_
     refine at_sl 2 [(79, .bool (decide (p0.Group ≥ (1 : Int))))] H fun fr H => ?_
     exact at_zb H hb
    | false =>
     replace H := H.kn 75 hb
     refine at_sl 4 [(79, .bool false)] H fun fr H => ?_
     exact at_zb H hb
   intro t fr h' hK
   obtain ⟨e, H⟩ := hK
   subst e
   refine at_sl 1 [(80, .bool (x10 && (decide (p0.Group ≥ (1 : Int)))))] H fun fr H => ?_
   refine at_cl 4 (fun fr' h' => h12 = h' ∧ Has fr' 85 [(84, .bool ((x10 && (decide (p0.Group ≥ (1 : Int)))) && (decide (p0.Group ≤ (1024 : Int)))))]) ?_ ?_
   ·cases hb : (x10 && (decide (p0.Group ≥ (1 : Int))) : Bool) with
    | true =>
     replace H := H.kn 80 hb
     refine at_gl 1 [] 82 2 5 A H fun fr t H => ?_
     refine at_sl 2 [(84, .bool (decide (p0.Group ≤ (1024 : Int))))] H fun fr H => ?_
     exact at_zb H hb
    | false =>
     replace H := H.kn 80 hb
     refine at_sl 4 [(84, .bool false)] H fun fr H => ?_
     exact at_zb H hb
   intro t fr h' hK
   obtain ⟨e, H⟩ := hK
   subst e
   refine at_el 1 [(4, .bool ((x10 && (decide (p0.Group ≥ (1 : Int)))) && (decide (p0.Group ≤ (1024 : Int)))))] H (fun _ => id) fun fr H => ?_
   refine aw_rt ?_
   obtain rfl := injA hm
   refine ⟨.inl rfl, .bool ((x10 && (decide (p0.Group ≥ (1 : Int)))) && (decide (p0.Group ≤ (1024 : Int)))), rH H, ?_⟩
   replace A := A.d0
   exact ⟨rfl, A⟩
  refine aw_ks 1 id ?_
  refine at_el 1 [(4, .bool true)] H (fun _ => id) fun fr H => ?_
  refine aw_rt ?_
  obtain rfl := injA hm
  refine ⟨.inl rfl, .bool true, rH H, ?_⟩
  replace A := A.d0
  exact ⟨rfl, A⟩
 exact hF.elim
end Go.Av.L
