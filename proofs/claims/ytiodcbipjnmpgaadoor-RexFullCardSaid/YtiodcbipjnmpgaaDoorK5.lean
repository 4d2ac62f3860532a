/-
 Models of functions, and that the abstract run tells them. Written by lift2.py.
-/
import Derived.Test.YtiodcbipjnmpgaaDoorKCfg
import Derived.Test.YtiodcbipjnmpgaaDoorK2
import Derived.Test.YtiodcbipjnmpgaaDoorK4
namespace Go.Av.L
open Go.Av Go.Lib
set_option maxRecDepth 10000
set_option linter.unusedVariables false
set_option linter.unusedSimpArgs false
/-! ### (boulter/tree.Tree).Text -/
noncomputable def M_tree_Tree_Text_L0 (p0 : S_tree_Tree) (x2 : List Bool) (s : (List (List UInt8)) × Int) : Option (((List (List UInt8)) × Int) ⊕ (((List (List UInt8))) ⊕ ((List UInt8)))) :=
 match s with
 | (x3, x4) => iteB (decide (x4 < (x2.length : Int))) (((ixV x2 x4).bind fun x9 => iteB (!x9) (some (.inl x3)) ((ixV p0.Nodes x4).bind fun x10 => (ixV x3 x10.A).bind fun x11 => (ixV x3 x10.B).bind fun x12 => iteB (decide ((IntKind.i64.wrap ((x11.length : Int) + (x12.length : Int))) > (1048576 : Int))) (some (.inr ([] : List UInt8))) ((M_tree_text_sRO x10 x3).bind fun x13 => (ixV x3 x4).bind fun x14 => (ixV (x3.set x4.toNat x13) x4).bind fun x15 => iteB (decide ((x15.length : Int) > (1048576 : Int))) (some (.inr ([] : List UInt8))) (some (.inl (x3.set x4.toNat x13))))) : Option (((List (List UInt8))) ⊕ ((List UInt8)))).bind fun o2 => (match o2 with | .inl x7 => some (.inl (x7, IntKind.i64.wrap (x4 + (1 : Int)))) | .inr x8 => some (.inr (.inr x8)))) (some (.inr (.inl x3)))
noncomputable def M_tree_Tree_Text (p0 : S_tree_Tree) : Option ((List UInt8)) :=
 (M_tree_Tree_Right p0).bind fun x1 => iteB (!x1) (some ([] : List UInt8)) (need (mkN 16 (p0.Nodes.length : Int)) <| (M_tree_Tree_used p0).bind fun x2 => (loop (M_tree_Tree_Text_L0 p0 x2) ((List.replicate (p0.Nodes.length : Int).toNat ([] : List UInt8)), (0 : Int))).bind fun o1 => (match o1 with | .inl x5 => (ixV x5 p0.Root).bind fun x16 => some x16 | .inr x6 => some x6))
theorem ok_tree_Tree_Text {g : Gd} {h : AHeap} {F : List Ck} {p0 : S_tree_Tree} {q0 : List UInt8} {av : List AVal} (hm : M_tree_Tree_Text p0 = some q0) (hc : canL (cfg.still 15) av = [.agg [vs e_S_tree_Node p0.Nodes, .int .i64 p0.Root]]) (A : HH g h [] F) : ∃ v h', Runs cfg g h 15 av v h' ∧ v = .str q0 ∧ HH g h' [] F := by
 refine runsQ1 (n := 61) (rs := [.tmp 2]) (by kernel_rfl) hc (by kernel_rfl) ?_
 clear hc
 unfold M_tree_Tree_Text at hm
 refine start (n := 61) [(0, .agg [vs e_S_tree_Node p0.Nodes, .int .i64 p0.Root])] (by kernel_rfl) (by kernel_rfl) ?_
 intro fr H
 refine aw_seq (by kernel_rfl) ?_
 refine aw_reg (id := 0) (n := 2) [(0, []), (1, [])] (by kernel_rfl) (by kernel_rfl) ?_
 obtain ⟨h1, e1⟩ : ∃ x, x = h.push (.cells none 2 [vs e_S_tree_Node p0.Nodes, .int .i64 p0.Root]) := ⟨_, rfl⟩
 replace A := (A.push _).to e1
 refine at_step (v := .ptr (some (h.size, 0))) (h1 := h1) [(1, .ptr (some (h.size, 0)))] H (fun fr => by kernel_rfl) (fun fr => .of (s_n' (by kernel_rfl) (congrArg some e1.symm))) ?_
 intro fr t H
 refine at_seg [(1, [])] [(1, .ptr (some (h.size, 0)))] H (noU_all rfl) (fun fr => by kernel_rfl) ?_
 intro fr H
 refine at_nil ?_
 show AW cfg 15 g (right (bodyC cfg.P 15)) fr h1 _
 refine aw_seq (by kernel_rfl) ?_
 refine aw_seq (by kernel_rfl) ?_
 refine aw_reg (id := 1) (n := 3) [(0, []), (1, []), (2, [])] (by kernel_rfl) (by kernel_rfl) ?_
 refine at_step (v := .agg [vs e_S_tree_Node p0.Nodes, .int .i64 p0.Root]) (h1 := h1) [(1, .ptr (some (h.size, 0))), (7, .agg [vs e_S_tree_Node p0.Nodes, .int .i64 p0.Root])] H (fun fr => by kernel_rfl) (fun fr => .of (s_ldA (by kernel_rfl) (A.ldA 0 rfl (o := 0) (n := 2) ⟨Nat.le_of_ble_eq_true rfl, rfl⟩))) ?_
 intro fr t H
 have A1 := A.cut 0
 obtain ⟨x1, hx, hm⟩ := bind_some hm
 obtain ⟨v1, h2, hr, rfl, A1⟩ := ok_tree_Tree_Right (av := [.agg [vs e_S_tree_Node p0.Nodes, .int .i64 p0.Root]]) hx (by kernel_rfl) A1
 replace A : HH g h2 [.obj h.size (.cells none 2 [vs e_S_tree_Node p0.Nodes, .int .i64 p0.Root])] F := A.glue0 (n := 0) A1
 refine at_step (v := .bool x1) (h1 := h2) [(1, .ptr (some (h.size, 0))), (8, .bool x1)] H (fun fr => by kernel_rfl) (fun fr => Steps.call (by kernel_rfl) hr) ?_
 intro fr t H
 refine at_seg [(2, [])] [(1, .ptr (some (h.size, 0))), (9, .bool (!x1))] H (noU_all rfl) (fun fr => by kernel_rfl) ?_
 intro fr H
 refine at_nil ?_
 show AW cfg 15 g (right (left (right (bodyC cfg.P 15)))) fr h2 _
 rcases iteB_some hm with ⟨hb, hm⟩ | ⟨hb, hm⟩
 ·replace H := H.know 9 hb (by kernel_rfl)
  refine aw_true (x := .tmp 9) (by kernel_rfl) H (fun fr => by kernel_rfl) ?_
  refine aw_seq (by kernel_rfl) ?_
  refine aw_reg (id := 2) (n := 1) [(0, [])] (by kernel_rfl) (by kernel_rfl) ?_
  refine at_seg [(0, [])] [(2, .str ([] : List UInt8))] H (noU_all rfl) (fun fr => by kernel_rfl) ?_
  intro fr H
  refine at_nil ?_
  show AW cfg 15 g (right (left (right (left (right (bodyC cfg.P 15)))))) fr h2 _
  refine aw_ret (by kernel_rfl) ?_
  have e1 := Option.some.inj hm
  subst e1
  refine ⟨.inl rfl, .str ([] : List UInt8), resH H (fun fr => by kernel_rfl), ?_⟩
  replace A : HH g h2 [] F := (HH.dropF A 0)
  exact ⟨rfl, A⟩
 ·replace H := H.know 9 hb (by kernel_rfl)
  refine aw_false (x := .tmp 9) (by kernel_rfl) H (fun fr => by kernel_rfl) ?_
  refine aw_skip (by kernel_rfl) ?_
  show AW cfg 15 g (right (right (bodyC cfg.P 15))) fr h2 _
  refine aw_seq (by kernel_rfl) ?_
  refine aw_reg (id := 3) (n := 5) [(0, []), (1, []), (2, []), (3, []), (4, [])] (by kernel_rfl) (by kernel_rfl) ?_
  refine at_seg [(0, [])] [(1, .ptr (some (h.size, 0))), (10, .ptr (some (h.size, 0)))] H (noU_all rfl) (fun fr => by kernel_rfl) ?_
  intro fr H
  refine at_step (v := vs e_S_tree_Node p0.Nodes) (h1 := h2) [(1, .ptr (some (h.size, 0))), (11, vs e_S_tree_Node p0.Nodes)] H (fun fr => by kernel_rfl) (fun fr => .of (s_ld (by kernel_rfl) (A.ld1 0 rfl (o := 0) rfl))) ?_
  intro fr t H
  refine at_seg [(2, [])] [(1, .ptr (some (h.size, 0))), (12, .int .i64 (p0.Nodes.length : Int))] H (noU_all rfl) (fun fr => by kernel_rfl) ?_
  intro fr H
  obtain ⟨hb, hm⟩ := need_some hm
  obtain ⟨h3, e2⟩ : ∃ x, x = h2.push (.cells (some 9) 2 (lst eS (List.replicate (p0.Nodes.length : Int).toNat ([] : List UInt8)))) := ⟨_, rfl⟩
  replace A := (A.pushL _ _).to e2
  refine at_step (v := rowV (some h2.size) (List.replicate (p0.Nodes.length : Int).toNat ([] : List UInt8)).length) (h1 := h3) [(1, .ptr (some (h.size, 0))), (13, rowV (some h2.size) ((List.replicate (p0.Nodes.length : Int).toNat ([] : List UInt8)).length))] H (fun fr => by kernel_rfl) (fun fr => .of (s_mkO (e := eS) encS (x := ([] : List UInt8)) (by kernel_rfl) hb (congrArg some e2.symm))) ?_
  intro fr t H
  refine at_seg [(4, [])] [(1, .ptr (some (h.size, 0))), (3, rowV (some h2.size) ((List.replicate (p0.Nodes.length : Int).toNat ([] : List UInt8)).length))] H (noU_all rfl) (fun fr => by kernel_rfl) ?_
  intro fr H
  refine at_nil ?_
  show AW cfg 15 g (right (right (right (bodyC cfg.P 15)))) fr h3 _
  refine aw_seq (by kernel_rfl) ?_
  refine aw_seq (by kernel_rfl) ?_
  refine aw_reg (id := 4) (n := 4) [(0, []), (1, []), (2, []), (3, [])] (by kernel_rfl) (by kernel_rfl) ?_
  refine at_step (v := .agg [vs e_S_tree_Node p0.Nodes, .int .i64 p0.Root]) (h1 := h3) [(1, .ptr (some (h.size, 0))), (3, rowV (some h2.size) ((List.replicate (p0.Nodes.length : Int).toNat ([] : List UInt8)).length)), (14, .agg [vs e_S_tree_Node p0.Nodes, .int .i64 p0.Root])] H (fun fr => by kernel_rfl) (fun fr => .of (s_ldA (by kernel_rfl) (A.ldA 1 rfl (o := 0) (n := 2) ⟨Nat.le_of_ble_eq_true rfl, rfl⟩))) ?_
  intro fr t H
  have A1 := A.cut 0
  obtain ⟨x2, hx, hm⟩ := bind_some hm
  obtain ⟨v1, h4, hr, rqw2, rfl, A1⟩ := ok_tree_Tree_used (av := [.agg [vs e_S_tree_Node p0.Nodes, .int .i64 p0.Root]]) hx (by kernel_rfl) A1
  replace A : HH g h4 [.lst rqw2 4 (lst eB x2), .lst (some h2.size) 9 (lst eS (List.replicate (p0.Nodes.length : Int).toNat ([] : List UInt8))), .obj h.size (.cells none 2 [vs e_S_tree_Node p0.Nodes, .int .i64 p0.Root])] F := A.glue0 (n := 0) A1
  refine at_step (v := rowV rqw2 x2.length) (h1 := h4) [(1, .ptr (some (h.size, 0))), (3, rowV (some h2.size) ((List.replicate (p0.Nodes.length : Int).toNat ([] : List UInt8)).length)), (15, rowV rqw2 x2.length)] H (fun fr => by kernel_rfl) (fun fr => Steps.call (by kernel_rfl) hr) ?_
  intro fr t H
  refine at_seg [(2, []), (3, [])] [(1, .ptr (some (h.size, 0))), (3, rowV (some h2.size) ((List.replicate (p0.Nodes.length : Int).toNat ([] : List UInt8)).length)), (15, rowV rqw2 x2.length), (16, .int .i64 (x2.length : Int)), (17, .int .i64 (0 : Int))] H (noU_all rfl) (fun fr => by kernel_rfl) ?_
  intro fr H
  refine at_nil ?_
  show AW cfg 15 g (right (left (right (right (right (bodyC cfg.P 15)))))) fr h4 _
  refine aw_block (id := 0) (by kernel_rfl) ?_
  obtain ⟨o1, ho, hm⟩ := bind_some hm
  refine aw_mono (Q' := fun e fr' h' => (∃ (x5 : List (List UInt8)), e = .exit 0 ∧ .inl x5 = o1 ∧ ∃ (hl2 : x5.length = (List.replicate (p0.Nodes.length : Int).toNat ([] : List UInt8)).length), Has fr' 61 [(1, .ptr (some (h.size, 0))), (3, rowV (some h2.size) x5.length)] ∧ HH g h' [.lst (some h2.size) 9 (lst eS x5), .obj h.size (.cells none 2 [vs e_S_tree_Node p0.Nodes, .int .i64 p0.Root])] F) ∨ (∃ (x6 : List UInt8), e = .ret ∧ .inr x6 = o1 ∧ Has fr' 61 [(2, .str x6)] ∧ HH g h' [.obj h.size (.cells none 2 [vs e_S_tree_Node p0.Nodes, .int .i64 p0.Root])] F) ∨ False) ?_ ?_
  ·refine aw_loop (by kernel_rfl) (fun (s : (List (List UInt8)) × Int) fr' h' => ∃ (x3 : List (List UInt8)) (x4 : Int), (x3, x4) = s ∧ ∃ (hl1 : x3.length = (List.replicate (p0.Nodes.length : Int).toNat ([] : List UInt8)).length), Has fr' 61 [(1, .ptr (some (h.size, 0))), (3, rowV (some h2.size) x3.length), (15, rowV rqw2 x2.length), (16, .int .i64 (x2.length : Int)), (17, .int .i64 x4)] ∧ HH g h' [.lst rqw2 4 (lst eB x2), .lst (some h2.size) 9 (lst eS x3), .obj h.size (.cells none 2 [vs e_S_tree_Node p0.Nodes, .int .i64 p0.Root])] F) ho ⟨(List.replicate (p0.Nodes.length : Int).toNat ([] : List UInt8)), (0 : Int), rfl, rfl, H.less _ (fun fr => by kernel_rfl), A⟩ ?_
   clear ho hm H A
   intro s q fr h5 hI hm
   obtain ⟨x3, x4, rfl, hl1, H, A⟩ := hI
   unfold M_tree_Tree_Text_L0 at hm
   refine aw_seq (by kernel_rfl) ?_
   refine aw_reg (id := 5) (n := 1) [(0, [])] (by kernel_rfl) (by kernel_rfl) ?_
   refine at_seg [(0, [])] [(1, .ptr (some (h.size, 0))), (3, rowV (some h2.size) x3.length), (15, rowV rqw2 x2.length), (16, .int .i64 (x2.length : Int)), (17, .int .i64 x4), (18, .bool (decide (x4 < (x2.length : Int))))] H (noU_all rfl) (fun fr => by kernel_rfl) ?_
   intro fr H
   refine at_nil ?_
   show AW cfg 15 g (right (left (left (right (left (right (right (right (bodyC cfg.P 15))))))))) fr h5 _
   refine aw_seq (by kernel_rfl) ?_
   rcases iteB_some hm with ⟨hb, hm⟩ | ⟨hb, hm⟩
   ·replace H := H.know 18 hb (by kernel_rfl)
    refine aw_true (x := .tmp 18) (by kernel_rfl) H (fun fr => by kernel_rfl) ?_
    refine aw_skip (by kernel_rfl) ?_
    show AW cfg 15 g (right (right (left (left (right (left (right (right (right (bodyC cfg.P 15)))))))))) fr h5 _
    refine aw_seq (by kernel_rfl) ?_
    obtain ⟨o2, ho, hm⟩ := bind_some hm
    refine aw_mono (Q' := fun e fr' h' => (∃ (x7 : List (List UInt8)), e = .normal ∧ .inl x7 = o2 ∧ ∃ (hl3 : x7.length = (List.replicate (p0.Nodes.length : Int).toNat ([] : List UInt8)).length), Has fr' 61 [(1, .ptr (some (h.size, 0))), (3, rowV (some h2.size) x7.length), (15, rowV rqw2 x2.length), (16, .int .i64 (x2.length : Int)), (17, .int .i64 x4)] ∧ HH g h' [.lst rqw2 4 (lst eB x2), .lst (some h2.size) 9 (lst eS x7), .obj h.size (.cells none 2 [vs e_S_tree_Node p0.Nodes, .int .i64 p0.Root])] F) ∨ (∃ (x8 : List UInt8), e = .ret ∧ .inr x8 = o2 ∧ Has fr' 61 [(2, .str x8)] ∧ HH g h' [.obj h.size (.cells none 2 [vs e_S_tree_Node p0.Nodes, .int .i64 p0.Root])] F) ∨ False) ?_ ?_
    ·replace hm := ho
     clear ho
     refine aw_block (id := 1) (by kernel_rfl) ?_
     refine aw_seq (by kernel_rfl) ?_
     refine aw_reg (id := 6) (n := 5) [(0, []), (1, []), (2, []), (3, []), (4, [])] (by kernel_rfl) (by kernel_rfl) ?_
     refine at_seg [(0, [])] [(1, .ptr (some (h.size, 0))), (3, rowV (some h2.size) x3.length), (15, rowV rqw2 x2.length), (16, .int .i64 (x2.length : Int)), (17, .int .i64 x4), (19, .int .i64 x4)] H (noU_all rfl) (fun fr => by kernel_rfl) ?_
     intro fr H
     obtain ⟨x9, hx, hm⟩ := bind_some hm
     obtain ⟨i1, er1, _, hx, hq1⟩ := HH.ixO encB (by decide) A 0 (xs := x2) rfl hx
     refine at_step (v := .ptr (some (i1, x4.toNat * 1))) (h1 := h5) [(1, .ptr (some (h.size, 0))), (3, rowV (some h2.size) x3.length), (15, rowV rqw2 x2.length), (16, .int .i64 (x2.length : Int)), (17, .int .i64 x4), (19, .int .i64 x4), (20, .ptr (some (i1, x4.toNat * 1)))] H (fun fr => by kernel_rfl) (fun fr => .of (s_ixL (s := rowS rqw2 x2.length) (by kernel_rfl) hx)) ?_
     intro fr t H
     refine at_step (v := .bool x9) (h1 := h5) [(1, .ptr (some (h.size, 0))), (3, rowV (some h2.size) x3.length), (15, rowV rqw2 x2.length), (16, .int .i64 (x2.length : Int)), (17, .int .i64 x4), (19, .int .i64 x4), (21, .bool x9)] H (fun fr => by kernel_rfl) (fun fr => .of (s_ld (by kernel_rfl) (row_ld1 encB (HH.row A 0 rfl er1) hq1 (o := 0) rfl))) ?_
     intro fr t H
     refine at_seg [(3, []), (4, [])] [(1, .ptr (some (h.size, 0))), (3, rowV (some h2.size) x3.length), (4, .int .i64 x4), (5, .bool x9), (15, rowV rqw2 x2.length), (16, .int .i64 (x2.length : Int)), (17, .int .i64 x4)] H (noU_all rfl) (fun fr => by kernel_rfl) ?_
     intro fr H
     refine at_nil ?_
     show AW cfg 15 g (right (left (left (right (right (left (left (right (left (right (right (right (bodyC cfg.P 15))))))))))))) fr h5 _
     refine aw_seq (by kernel_rfl) ?_
     refine aw_seq (by kernel_rfl) ?_
     refine aw_reg (id := 7) (n := 2) [(0, []), (1, [])] (by kernel_rfl) (by kernel_rfl) ?_
     refine at_seg [(0, []), (1, [])] [(1, .ptr (some (h.size, 0))), (3, rowV (some h2.size) x3.length), (4, .int .i64 x4), (15, rowV rqw2 x2.length), (16, .int .i64 (x2.length : Int)), (17, .int .i64 x4), (23, .bool (!x9))] H (noU_all rfl) (fun fr => by kernel_rfl) ?_
     intro fr H
     refine at_nil ?_
     show AW cfg 15 g (right (left (right (left (left (right (right (left (left (right (left (right (right (right (bodyC cfg.P 15))))))))))))))) fr h5 _
     rcases iteB_some hm with ⟨hb, hm⟩ | ⟨hb, hm⟩
     ·replace H := H.know 23 hb (by kernel_rfl)
      refine aw_true (x := .tmp 23) (by kernel_rfl) H (fun fr => by kernel_rfl) ?_
      refine aw_exit (i := 1) (by kernel_rfl) ?_
      exact Or.inl ⟨x3, rfl, Option.some.inj hm, hl1, H.less _ (fun fr => by kernel_rfl), A⟩
     ·replace H := H.know 23 hb (by kernel_rfl)
      refine aw_false (x := .tmp 23) (by kernel_rfl) H (fun fr => by kernel_rfl) ?_
      refine aw_skip (by kernel_rfl) ?_
      show AW cfg 15 g (right (right (left (left (right (right (left (left (right (left (right (right (right (bodyC cfg.P 15)))))))))))))) fr h5 _
      refine aw_seq (by kernel_rfl) ?_
      refine aw_reg (id := 8) (n := 7) [(0, []), (1, []), (2, []), (3, []), (4, []), (5, []), (6, [])] (by kernel_rfl) (by kernel_rfl) ?_
      refine at_seg [(0, [])] [(1, .ptr (some (h.size, 0))), (3, rowV (some h2.size) x3.length), (4, .int .i64 x4), (15, rowV rqw2 x2.length), (16, .int .i64 (x2.length : Int)), (17, .int .i64 x4), (24, .ptr (some (h.size, 0)))] H (noU_all rfl) (fun fr => by kernel_rfl) ?_
      intro fr H
      refine at_step (v := vs e_S_tree_Node p0.Nodes) (h1 := h5) [(1, .ptr (some (h.size, 0))), (3, rowV (some h2.size) x3.length), (4, .int .i64 x4), (15, rowV rqw2 x2.length), (16, .int .i64 (x2.length : Int)), (17, .int .i64 x4), (25, vs e_S_tree_Node p0.Nodes)] H (fun fr => by kernel_rfl) (fun fr => .of (s_ld (by kernel_rfl) (A.ld1 2 rfl (o := 0) rfl))) ?_
      intro fr t H
      refine at_seg [(2, [])] [(1, .ptr (some (h.size, 0))), (3, rowV (some h2.size) x3.length), (4, .int .i64 x4), (15, rowV rqw2 x2.length), (16, .int .i64 (x2.length : Int)), (17, .int .i64 x4), (25, vs e_S_tree_Node p0.Nodes), (26, .int .i64 x4)] H (noU_all rfl) (fun fr => by kernel_rfl) ?_
      intro fr H
      obtain ⟨x10, hx, hm⟩ := bind_some hm
      refine at_step (v := .vptr (e_S_tree_Node x10)) (h1 := h5) [(1, .ptr (some (h.size, 0))), (3, rowV (some h2.size) x3.length), (4, .int .i64 x4), (15, rowV rqw2 x2.length), (16, .int .i64 (x2.length : Int)), (17, .int .i64 x4), (27, .vptr (e_S_tree_Node x10))] H (fun fr => by kernel_rfl) (fun fr => .of (s_ixV (e := e_S_tree_Node) (x := x10) enc_S_tree_Node (by decide) (by kernel_rfl) hx)) ?_
      intro fr t H
      refine at_step (v := .agg (e_S_tree_Node x10)) (h1 := h5) [(1, .ptr (some (h.size, 0))), (3, rowV (some h2.size) x3.length), (4, .int .i64 x4), (15, rowV rqw2 x2.length), (16, .int .i64 (x2.length : Int)), (17, .int .i64 x4), (28, .agg (e_S_tree_Node x10))] H (fun fr => by kernel_rfl) (fun fr => .of (s_lv (by kernel_rfl))) ?_
      intro fr t H
      obtain ⟨h6, e3⟩ : ∃ x, x = h5.push (.cells none 2 [.int .i64 (0 : Int), .int .i64 (0 : Int), .int .i64 (0 : Int), .int .i64 (0 : Int), .int .i64 (0 : Int), .int .i64 (0 : Int), .int .u64 (0 : Int), .int .u64 (0 : Int), .int .u64 (0 : Int), .int .u64 (0 : Int)]) := ⟨_, rfl⟩
      replace A := (A.push _).to e3
      refine at_step (v := .ptr (some (h5.size, 0))) (h1 := h6) [(1, .ptr (some (h.size, 0))), (3, rowV (some h2.size) x3.length), (4, .int .i64 x4), (6, .ptr (some (h5.size, 0))), (15, rowV rqw2 x2.length), (16, .int .i64 (x2.length : Int)), (17, .int .i64 x4), (28, .agg (e_S_tree_Node x10))] H (fun fr => by kernel_rfl) (fun fr => .of (s_n' (by kernel_rfl) (congrArg some e3.symm))) ?_
      intro fr t H
      obtain ⟨h7, hx, A1⟩ := A.st 0 rfl (o := 0) (new := [.int .i64 x10.Kind, .int .i64 x10.A, .int .i64 x10.B, .int .i64 x10.Min, .int .i64 x10.Max, .int .i64 x10.Group, .int .u64 x10.Set.w0, .int .u64 x10.Set.w1, .int .u64 x10.Set.w2, .int .u64 x10.Set.w3]) (ds := [.int .i64 x10.Kind, .int .i64 x10.A, .int .i64 x10.B, .int .i64 x10.Min, .int .i64 x10.Max, .int .i64 x10.Group, .int .u64 x10.Set.w0, .int .u64 x10.Set.w1, .int .u64 x10.Set.w2, .int .u64 x10.Set.w3]) (Nat.le_of_ble_eq_true rfl) rfl rfl
      replace A : HH g h7 [.obj h5.size (.cells none 2 (e_S_tree_Node x10)), .lst rqw2 4 (lst eB x2), .lst (some h2.size) 9 (lst eS x3), .obj h.size (.cells none 2 [vs e_S_tree_Node p0.Nodes, .int .i64 p0.Root])] F := A1
      refine at_step (v := .tuple []) (h1 := h7) [(1, .ptr (some (h.size, 0))), (3, rowV (some h2.size) x3.length), (4, .int .i64 x4), (6, .ptr (some (h5.size, 0))), (15, rowV rqw2 x2.length), (16, .int .i64 (x2.length : Int)), (17, .int .i64 x4)] H (fun fr => by kernel_rfl) (fun fr => .of (s_stG (by kernel_rfl) (stG_st hx rfl))) ?_
      intro fr t H
      refine at_nil ?_
      show AW cfg 15 g (right (right (right (left (left (right (right (left (left (right (left (right (right (right (bodyC cfg.P 15))))))))))))))) fr h7 _
      refine aw_seq (by kernel_rfl) ?_
      refine aw_seq (by kernel_rfl) ?_
      refine aw_draw (id := 9) (n := 14) (by kernel_rfl) [(0, []), (1, []), (2, []), (3, []), (4, []), (5, []), (6, []), (7, []), (8, []), (9, []), (10, []), (11, []), (12, []), (13, [])] (by kernel_rfl) ?_
      refine at_seg [(0, []), (1, [])] [(1, .ptr (some (h.size, 0))), (3, rowV (some h2.size) x3.length), (4, .int .i64 x4), (6, .ptr (some (h5.size, 0))), (15, rowV rqw2 x2.length), (16, .int .i64 (x2.length : Int)), (17, .int .i64 x4), (29, rowV (some h2.size) x3.length), (30, .ptr (some (h5.size, 1)))] H (noU_all rfl) (fun fr => by kernel_rfl) ?_
      intro fr H
      refine at_step (v := .int .i64 x10.A) (h1 := h7) [(1, .ptr (some (h.size, 0))), (3, rowV (some h2.size) x3.length), (4, .int .i64 x4), (6, .ptr (some (h5.size, 0))), (15, rowV rqw2 x2.length), (16, .int .i64 (x2.length : Int)), (17, .int .i64 x4), (29, rowV (some h2.size) x3.length), (31, .int .i64 x10.A)] H (fun fr => by kernel_rfl) (fun fr => .of (s_ld (by kernel_rfl) (A.ld1 0 rfl (o := 1) rfl))) ?_
      intro fr t H
      obtain ⟨x11, hx, hm⟩ := bind_some hm
      obtain ⟨i2, er2, _, hx, hq2⟩ := HH.ixO encS (by decide) A 2 (xs := x3) rfl hx
      refine at_step (v := .ptr (some (i2, x10.A.toNat * 1))) (h1 := h7) [(1, .ptr (some (h.size, 0))), (3, rowV (some h2.size) x3.length), (4, .int .i64 x4), (6, .ptr (some (h5.size, 0))), (15, rowV rqw2 x2.length), (16, .int .i64 (x2.length : Int)), (17, .int .i64 x4), (32, .ptr (some (i2, x10.A.toNat * 1)))] H (fun fr => by kernel_rfl) (fun fr => .of (s_ixL (s := rowS (some h2.size) x3.length) (by kernel_rfl) hx)) ?_
      intro fr t H
      refine at_step (v := .str x11) (h1 := h7) [(1, .ptr (some (h.size, 0))), (3, rowV (some h2.size) x3.length), (4, .int .i64 x4), (6, .ptr (some (h5.size, 0))), (15, rowV rqw2 x2.length), (16, .int .i64 (x2.length : Int)), (17, .int .i64 x4), (33, .str x11)] H (fun fr => by kernel_rfl) (fun fr => .of (s_ld (by kernel_rfl) (row_ld1 encS (HH.row A 2 rfl er2) hq2 (o := 0) rfl))) ?_
      intro fr t H
      refine at_seg [(5, []), (6, []), (7, [])] [(1, .ptr (some (h.size, 0))), (3, rowV (some h2.size) x3.length), (4, .int .i64 x4), (6, .ptr (some (h5.size, 0))), (15, rowV rqw2 x2.length), (16, .int .i64 (x2.length : Int)), (17, .int .i64 x4), (34, .int .i64 (x11.length : Int)), (35, rowV (some h2.size) x3.length), (36, .ptr (some (h5.size, 2)))] H (noU_all rfl) (fun fr => by kernel_rfl) ?_
      intro fr H
      refine at_step (v := .int .i64 x10.B) (h1 := h7) [(1, .ptr (some (h.size, 0))), (3, rowV (some h2.size) x3.length), (4, .int .i64 x4), (6, .ptr (some (h5.size, 0))), (15, rowV rqw2 x2.length), (16, .int .i64 (x2.length : Int)), (17, .int .i64 x4), (34, .int .i64 (x11.length : Int)), (35, rowV (some h2.size) x3.length), (37, .int .i64 x10.B)] H (fun fr => by kernel_rfl) (fun fr => .of (s_ld (by kernel_rfl) (A.ld1 0 rfl (o := 2) rfl))) ?_
      intro fr t H
      obtain ⟨x12, hx, hm⟩ := bind_some hm
      obtain ⟨i3, er3, _, hx, hq3⟩ := HH.ixO encS (by decide) A 2 (xs := x3) rfl hx
      refine at_step (v := .ptr (some (i3, x10.B.toNat * 1))) (h1 := h7) [(1, .ptr (some (h.size, 0))), (3, rowV (some h2.size) x3.length), (4, .int .i64 x4), (6, .ptr (some (h5.size, 0))), (15, rowV rqw2 x2.length), (16, .int .i64 (x2.length : Int)), (17, .int .i64 x4), (34, .int .i64 (x11.length : Int)), (38, .ptr (some (i3, x10.B.toNat * 1)))] H (fun fr => by kernel_rfl) (fun fr => .of (s_ixL (s := rowS (some h2.size) x3.length) (by kernel_rfl) hx)) ?_
      intro fr t H
      refine at_step (v := .str x12) (h1 := h7) [(1, .ptr (some (h.size, 0))), (3, rowV (some h2.size) x3.length), (4, .int .i64 x4), (6, .ptr (some (h5.size, 0))), (15, rowV rqw2 x2.length), (16, .int .i64 (x2.length : Int)), (17, .int .i64 x4), (34, .int .i64 (x11.length : Int)), (39, .str x12)] H (fun fr => by kernel_rfl) (fun fr => .of (s_ld (by kernel_rfl) (row_ld1 encS (HH.row A 2 rfl er3) hq3 (o := 0) rfl))) ?_
      intro fr t H
      refine at_seg [(11, []), (12, []), (13, [])] [(1, .ptr (some (h.size, 0))), (3, rowV (some h2.size) x3.length), (4, .int .i64 x4), (6, .ptr (some (h5.size, 0))), (15, rowV rqw2 x2.length), (16, .int .i64 (x2.length : Int)), (17, .int .i64 x4), (42, .bool (decide ((IntKind.i64.wrap ((x11.length : Int) + (x12.length : Int))) > (1048576 : Int))))] H (noU_all rfl) (fun fr => by kernel_rfl) ?_
      intro fr H
      refine at_nil ?_
      show AW cfg 15 g (right (left (right (right (right (left (left (right (right (left (left (right (left (right (right (right (bodyC cfg.P 15))))))))))))))))) fr h7 _
      rcases iteB_some hm with ⟨hb, hm⟩ | ⟨hb, hm⟩
      ·replace H := H.know 42 hb (by kernel_rfl)
       refine aw_true (x := .tmp 42) (by kernel_rfl) H (fun fr => by kernel_rfl) ?_
       refine aw_seq (by kernel_rfl) ?_
       refine aw_reg (id := 10) (n := 1) [(0, [])] (by kernel_rfl) (by kernel_rfl) ?_
       refine at_seg [(0, [])] [(2, .str ([] : List UInt8))] H (noU_all rfl) (fun fr => by kernel_rfl) ?_
       intro fr H
       refine at_nil ?_
       show AW cfg 15 g (right (left (right (left (right (right (right (left (left (right (right (left (left (right (left (right (right (right (bodyC cfg.P 15))))))))))))))))))) fr h7 _
       refine aw_ret (by kernel_rfl) ?_
       replace A : HH g h7 [.obj h.size (.cells none 2 [vs e_S_tree_Node p0.Nodes, .int .i64 p0.Root])] F := (HH.dropF (A.front 3 rfl) 1)
       exact Or.inr (Or.inl ⟨([] : List UInt8), rfl, Option.some.inj hm, H.less _ (fun fr => by kernel_rfl), A⟩)
      ·replace H := H.know 42 hb (by kernel_rfl)
       refine aw_false (x := .tmp 42) (by kernel_rfl) H (fun fr => by kernel_rfl) ?_
       refine aw_skip (by kernel_rfl) ?_
       show AW cfg 15 g (right (right (right (right (left (left (right (right (left (left (right (left (right (right (right (bodyC cfg.P 15)))))))))))))))) fr h7 _
       refine aw_seq (by kernel_rfl) ?_
       refine aw_reg (id := 11) (n := 7) [(0, []), (1, []), (2, []), (3, []), (4, []), (5, []), (6, [])] (by kernel_rfl) (by kernel_rfl) ?_
       refine at_seg [(0, []), (1, [])] [(1, .ptr (some (h.size, 0))), (3, rowV (some h2.size) x3.length), (4, .int .i64 x4), (6, .ptr (some (h5.size, 0))), (15, rowV rqw2 x2.length), (16, .int .i64 (x2.length : Int)), (17, .int .i64 x4), (43, rowV (some h2.size) x3.length), (44, .int .i64 x4)] H (noU_all rfl) (fun fr => by kernel_rfl) ?_
       intro fr H
       refine at_step (v := .agg (e_S_tree_Node x10)) (h1 := h7) [(1, .ptr (some (h.size, 0))), (3, rowV (some h2.size) x3.length), (4, .int .i64 x4), (15, rowV rqw2 x2.length), (16, .int .i64 (x2.length : Int)), (17, .int .i64 x4), (43, rowV (some h2.size) x3.length), (44, .int .i64 x4), (45, .agg (e_S_tree_Node x10))] H (fun fr => by kernel_rfl) (fun fr => .of (s_ldA (by kernel_rfl) (A.ldA 0 rfl (o := 0) (n := 10) ⟨Nat.le_of_ble_eq_true rfl, rfl⟩))) ?_
       intro fr t H
       refine at_seg [(3, [])] [(1, .ptr (some (h.size, 0))), (3, rowV (some h2.size) x3.length), (4, .int .i64 x4), (15, rowV rqw2 x2.length), (16, .int .i64 (x2.length : Int)), (17, .int .i64 x4), (43, rowV (some h2.size) x3.length), (44, .int .i64 x4), (45, .agg (e_S_tree_Node x10)), (46, rowV (some h2.size) x3.length)] H (noU_all rfl) (fun fr => by kernel_rfl) ?_
       intro fr H
       replace A : HH g h7 [.lst (some h2.size) 9 (lst eS x3), .obj h5.size (.cells none 2 (e_S_tree_Node x10)), .lst rqw2 4 (lst eB x2), .obj h.size (.cells none 2 [vs e_S_tree_Node p0.Nodes, .int .i64 p0.Root])] F := (A.front 2 rfl)
       have A1 := A.cut 1
       obtain ⟨x13, hx, hm⟩ := bind_some hm
       obtain ⟨v1, h8, hr, rfl, A1⟩ := ok_tree_text_sRO (av := [.agg (e_S_tree_Node x10), rowV (some h2.size) x3.length]) hx (by kernel_rfl) A1
       replace A : HH g h8 [.lst (some h2.size) 9 (lst eS x3), .obj h5.size (.cells none 2 (e_S_tree_Node x10)), .lst rqw2 4 (lst eB x2), .obj h.size (.cells none 2 [vs e_S_tree_Node p0.Nodes, .int .i64 p0.Root])] F := A.glue0 (n := 1) A1
       refine at_step (v := .str x13) (h1 := h8) [(1, .ptr (some (h.size, 0))), (3, rowV (some h2.size) x3.length), (4, .int .i64 x4), (15, rowV rqw2 x2.length), (16, .int .i64 (x2.length : Int)), (17, .int .i64 x4), (43, rowV (some h2.size) x3.length), (44, .int .i64 x4), (47, .str x13)] H (fun fr => by kernel_rfl) (fun fr => Steps.call (by kernel_rfl) hr) ?_
       intro fr t H
       obtain ⟨x14, hx, hm⟩ := bind_some hm
       obtain ⟨i4, er4, _, hx, hq4⟩ := HH.ixO encS (by decide) A 0 (xs := x3) rfl hx
       refine at_step (v := .ptr (some (i4, x4.toNat * 1))) (h1 := h8) [(1, .ptr (some (h.size, 0))), (3, rowV (some h2.size) x3.length), (4, .int .i64 x4), (15, rowV rqw2 x2.length), (16, .int .i64 (x2.length : Int)), (17, .int .i64 x4), (47, .str x13), (48, .ptr (some (i4, x4.toNat * 1)))] H (fun fr => by kernel_rfl) (fun fr => .of (s_ixL (s := rowS (some h2.size) x3.length) (by kernel_rfl) hx)) ?_
       intro fr t H
       obtain ⟨h9, hx, A1⟩ := HH.stO encS A 0 rfl er4 hq4 (y := x13) (o := 0) (new := [.str x13]) rfl rfl (Nat.le_of_ble_eq_true rfl)
       have hl4 : (x3.set x4.toNat x13).length = (List.replicate (p0.Nodes.length : Int).toNat ([] : List UInt8)).length := List.length_set.trans hl1
       have el : rowV (some h2.size) x3.length = rowV (some h2.size) (x3.set x4.toNat x13).length := congrArg _ List.length_set.symm
       try rw [el] at H
       try rw [el] at A1
       replace A : HH g h9 [.lst (some h2.size) 9 (lst eS (x3.set x4.toNat x13)), .obj h5.size (.cells none 2 (e_S_tree_Node x10)), .lst rqw2 4 (lst eB x2), .obj h.size (.cells none 2 [vs e_S_tree_Node p0.Nodes, .int .i64 p0.Root])] F := A1
       refine at_step (v := .tuple []) (h1 := h9) [(1, .ptr (some (h.size, 0))), (3, rowV (some h2.size) ((x3.set x4.toNat x13).length)), (4, .int .i64 x4), (15, rowV rqw2 x2.length), (16, .int .i64 (x2.length : Int)), (17, .int .i64 x4)] H (fun fr => by kernel_rfl) (fun fr => .of (s_st (by kernel_rfl) rfl hx)) ?_
       intro fr t H
       refine at_nil ?_
       show AW cfg 15 g (right (right (right (right (right (left (left (right (right (left (left (right (left (right (right (right (bodyC cfg.P 15))))))))))))))))) fr h9 _
       refine aw_seq (by kernel_rfl) ?_
       refine aw_reg (id := 12) (n := 6) [(0, []), (1, []), (2, []), (3, []), (4, []), (5, [])] (by kernel_rfl) (by kernel_rfl) ?_
       refine at_seg [(0, []), (1, [])] [(1, .ptr (some (h.size, 0))), (3, rowV (some h2.size) ((x3.set x4.toNat x13).length)), (15, rowV rqw2 x2.length), (16, .int .i64 (x2.length : Int)), (17, .int .i64 x4), (49, rowV (some h2.size) ((x3.set x4.toNat x13).length)), (50, .int .i64 x4)] H (noU_all rfl) (fun fr => by kernel_rfl) ?_
       intro fr H
       obtain ⟨x15, hx, hm⟩ := bind_some hm
       obtain ⟨i5, er5, _, hx, hq5⟩ := HH.ixO encS (by decide) A 0 (xs := (x3.set x4.toNat x13)) rfl hx
       refine at_step (v := .ptr (some (i5, x4.toNat * 1))) (h1 := h9) [(1, .ptr (some (h.size, 0))), (3, rowV (some h2.size) ((x3.set x4.toNat x13).length)), (15, rowV rqw2 x2.length), (16, .int .i64 (x2.length : Int)), (17, .int .i64 x4), (51, .ptr (some (i5, x4.toNat * 1)))] H (fun fr => by kernel_rfl) (fun fr => .of (s_ixL (s := rowS (some h2.size) ((x3.set x4.toNat x13).length)) (by kernel_rfl) hx)) ?_
       intro fr t H
       refine at_step (v := .str x15) (h1 := h9) [(1, .ptr (some (h.size, 0))), (3, rowV (some h2.size) ((x3.set x4.toNat x13).length)), (15, rowV rqw2 x2.length), (16, .int .i64 (x2.length : Int)), (17, .int .i64 x4), (52, .str x15)] H (fun fr => by kernel_rfl) (fun fr => .of (s_ld (by kernel_rfl) (row_ld1 encS (HH.row A 0 rfl er5) hq5 (o := 0) rfl))) ?_
       intro fr t H
       refine at_seg [(4, []), (5, [])] [(1, .ptr (some (h.size, 0))), (3, rowV (some h2.size) ((x3.set x4.toNat x13).length)), (15, rowV rqw2 x2.length), (16, .int .i64 (x2.length : Int)), (17, .int .i64 x4), (54, .bool (decide ((x15.length : Int) > (1048576 : Int))))] H (noU_all rfl) (fun fr => by kernel_rfl) ?_
       intro fr H
       refine at_nil ?_
       show AW cfg 15 g (right (right (right (right (right (right (left (left (right (right (left (left (right (left (right (right (right (bodyC cfg.P 15)))))))))))))))))) fr h9 _
       rcases iteB_some hm with ⟨hb, hm⟩ | ⟨hb, hm⟩
       ·replace H := H.know 54 hb (by kernel_rfl)
        refine aw_true (x := .tmp 54) (by kernel_rfl) H (fun fr => by kernel_rfl) ?_
        refine aw_seq (by kernel_rfl) ?_
        refine aw_reg (id := 13) (n := 1) [(0, [])] (by kernel_rfl) (by kernel_rfl) ?_
        refine at_seg [(0, [])] [(2, .str ([] : List UInt8))] H (noU_all rfl) (fun fr => by kernel_rfl) ?_
        intro fr H
        refine at_nil ?_
        show AW cfg 15 g (right (left (right (right (right (right (right (right (left (left (right (right (left (left (right (left (right (right (right (bodyC cfg.P 15)))))))))))))))))))) fr h9 _
        refine aw_ret (by kernel_rfl) ?_
        replace A : HH g h9 [.obj h.size (.cells none 2 [vs e_S_tree_Node p0.Nodes, .int .i64 p0.Root])] F := (HH.dropF (A.front 3 rfl) 1)
        exact Or.inr (Or.inl ⟨([] : List UInt8), rfl, Option.some.inj hm, H.less _ (fun fr => by kernel_rfl), A⟩)
       ·replace H := H.know 54 hb (by kernel_rfl)
        refine aw_false (x := .tmp 54) (by kernel_rfl) H (fun fr => by kernel_rfl) ?_
        refine aw_skip (by kernel_rfl) ?_
        replace A : HH g h9 [.lst rqw2 4 (lst eB x2), .lst (some h2.size) 9 (lst eS (x3.set x4.toNat x13)), .obj h.size (.cells none 2 [vs e_S_tree_Node p0.Nodes, .int .i64 p0.Root])] F := (HH.dropF (((A.front 3 rfl).front 1 rfl).front 3 rfl) 3)
        exact Or.inl ⟨(x3.set x4.toNat x13), rfl, Option.some.inj hm, hl4, H.less _ (fun fr => by kernel_rfl), A⟩
    ·clear ho
     clear A
     intro e fr h10 hQ
     rcases hQ with ⟨x7, rfl, rfl, hl3, H, A⟩ | ⟨x8, rfl, rfl, H, A⟩ | hF
     ·skip
      show AW cfg 15 g (right (right (right (left (left (right (left (right (right (right (bodyC cfg.P 15))))))))))) fr h10 _
      refine aw_reg (id := 14) (n := 2) [(0, []), (1, [])] (by kernel_rfl) (by kernel_rfl) ?_
      refine at_seg [(0, []), (1, [])] [(1, .ptr (some (h.size, 0))), (3, rowV (some h2.size) x7.length), (15, rowV rqw2 x2.length), (16, .int .i64 (x2.length : Int)), (17, .int .i64 (IntKind.i64.wrap (x4 + (1 : Int))))] H (noU_all rfl) (fun fr => by kernel_rfl) ?_
      intro fr H
      refine at_nil ?_
      exact Exists.intro (x7, IntKind.i64.wrap (x4 + (1 : Int))) (And.intro (Option.some.inj hm).symm ⟨x7, IntKind.i64.wrap (x4 + (1 : Int)), rfl, hl3, H.less _ (fun fr => by kernel_rfl), A⟩)
     ·skip
      exact Exists.intro _ (And.intro (Option.some.inj hm).symm (fun e => Or.inr (Or.inl ⟨x8, rfl, e, H.less _ (fun fr => by kernel_rfl), A⟩)))
     ·exact hF.elim
   ·replace H := H.know 18 hb (by kernel_rfl)
    refine aw_false (x := .tmp 18) (by kernel_rfl) H (fun fr => by kernel_rfl) ?_
    refine aw_exit (i := 0) (by kernel_rfl) ?_
    replace A : HH g h5 [.lst (some h2.size) 9 (lst eS x3), .obj h.size (.cells none 2 [vs e_S_tree_Node p0.Nodes, .int .i64 p0.Root])] F := (HH.dropF ((A.front 2 rfl).front 2 rfl) 2)
    exact Exists.intro _ (And.intro (Option.some.inj hm).symm (fun e => Or.inl ⟨x3, rfl, e, hl1, H.less _ (fun fr => by kernel_rfl), A⟩))
  ·clear ho
   clear A
   intro e fr h11 hQ
   rcases hQ with ⟨x5, rfl, rfl, hl2, H, A⟩ | ⟨x6, rfl, rfl, H, A⟩ | hF
   ·skip
    show AW cfg 15 g (right (right (right (right (bodyC cfg.P 15))))) fr h11 _
    refine aw_seq (by kernel_rfl) ?_
    refine aw_reg (id := 15) (n := 6) [(0, []), (1, []), (2, []), (3, []), (4, []), (5, [])] (by kernel_rfl) (by kernel_rfl) ?_
    refine at_seg [(0, []), (1, [])] [(56, rowV (some h2.size) x5.length), (57, .ptr (some (h.size, 1)))] H (noU_all rfl) (fun fr => by kernel_rfl) ?_
    intro fr H
    refine at_step (v := .int .i64 p0.Root) (h1 := h11) [(56, rowV (some h2.size) x5.length), (58, .int .i64 p0.Root)] H (fun fr => by kernel_rfl) (fun fr => .of (s_ld (by kernel_rfl) (A.ld1 1 rfl (o := 1) rfl))) ?_
    intro fr t H
    obtain ⟨x16, hx, hm⟩ := bind_some hm
    obtain ⟨i6, er6, _, hx, hq6⟩ := HH.ixO encS (by decide) A 0 (xs := x5) rfl hx
    refine at_step (v := .ptr (some (i6, p0.Root.toNat * 1))) (h1 := h11) [(59, .ptr (some (i6, p0.Root.toNat * 1)))] H (fun fr => by kernel_rfl) (fun fr => .of (s_ixL (s := rowS (some h2.size) x5.length) (by kernel_rfl) hx)) ?_
    intro fr t H
    refine at_step (v := .str x16) (h1 := h11) [(60, .str x16)] H (fun fr => by kernel_rfl) (fun fr => .of (s_ld (by kernel_rfl) (row_ld1 encS (HH.row A 0 rfl er6) hq6 (o := 0) rfl))) ?_
    intro fr t H
    refine at_seg [(5, [])] [(2, .str x16)] H (noU_all rfl) (fun fr => by kernel_rfl) ?_
    intro fr H
    refine at_nil ?_
    show AW cfg 15 g (right (right (right (right (right (bodyC cfg.P 15)))))) fr h11 _
    refine aw_ret (by kernel_rfl) ?_
    have e1 := Option.some.inj hm
    subst e1
    refine ⟨.inl rfl, .str x16, resH H (fun fr => by kernel_rfl), ?_⟩
    replace A : HH g h11 [] F := (HH.dropF A 0)
    exact ⟨rfl, A⟩
   ·skip
    have e1 := Option.some.inj hm
    subst e1
    refine ⟨.inl rfl, .str x6, resH H (fun fr => by kernel_rfl), ?_⟩
    replace A : HH g h11 [] F := (HH.dropF A 0)
    exact ⟨rfl, A⟩
   ·exact hF.elim
/-! ### boulter/boulterlaw19.awake -/
noncomputable def M_boulterlaw19_awake : Option (Bool) :=
 (M_rex_Parse ([97, 92, 40, 98, 42, 92, 41] : List UInt8) false).bind fun (x1, x2, x3) => (M_rex_Parse ([97, 124, 98] : List UInt8) true).bind fun (x4, x5, x6) => (M_rex_Parse ([97, 124, 98] : List UInt8) false).bind fun (x7, x8, x9) => (iteB (x3 == (0 : Int)) ((M_tree_Tree_Text x1).bind fun x11 => some (x11 == ([40, 91, 54, 49, 93, 46, 60, 49, 58, 123, 48, 44, 58, 91, 54, 50, 93, 125, 62, 41] : List UInt8))) (some false) : Option (Bool)).bind fun x10 => (iteB (x10 && (x6 == (0 : Int))) ((M_tree_Tree_Text x4).bind fun x13 => some (x13 == ([40, 91, 54, 49, 93, 124, 91, 54, 50, 93, 41] : List UInt8))) (some false) : Option (Bool)).bind fun x12 => (iteB (x12 && (x9 == (0 : Int))) ((M_tree_Tree_Text x7).bind fun x15 => some (x15 == ([40, 91, 54, 49, 93, 46, 40, 91, 55, 99, 93, 46, 91, 54, 50, 93, 41, 41] : List UInt8))) (some false) : Option (Bool)).bind fun x14 => some x14
theorem ok_boulterlaw19_awake {g : Gd} {h : AHeap} {F : List Ck} {q0 : Bool} {av : List AVal} (hm : M_boulterlaw19_awake = some q0) (hc : canL (cfg.still 7) av = []) (A : HH g h [] F) : ∃ v h', Runs cfg g h 7 av v h' ∧ v = .bool q0 ∧ HH g h' [] F := by
 refine runsQ1 (n := 50) (rs := [.tmp 0]) (by kernel_rfl) hc (by kernel_rfl) ?_
 clear hc
 unfold M_boulterlaw19_awake at hm
 refine start (n := 50) [] (by kernel_rfl) (by kernel_rfl) ?_
 intro fr H
 refine aw_seq (by kernel_rfl) ?_
 refine aw_reg (id := 0) (n := 1) [(0, [])] (by kernel_rfl) (by kernel_rfl) ?_
 refine at_seg [(0, [])] [] H (noU_all rfl) (fun fr => by kernel_rfl) ?_
 intro fr H
 refine at_nil ?_
 show AW cfg 7 g (right (bodyC cfg.P 7)) fr h _
 refine aw_seq (by kernel_rfl) ?_
 refine aw_reg (id := 1) (n := 9) [(0, []), (1, []), (2, []), (3, []), (4, []), (5, []), (6, []), (7, []), (8, [])] (by kernel_rfl) (by kernel_rfl) ?_
 have A1 := A.cut 0
 obtain ⟨⟨x1, x2, x3⟩, hx, hm⟩ := bind_some hm
 obtain ⟨v1, h1, hr, rfl, A1⟩ := ok_rex_Parse (av := [.str ([97, 92, 40, 98, 42, 92, 41] : List UInt8), .bool false]) hx (by kernel_rfl) A1
 replace A : HH g h1 [] F := A.glue0 (n := 0) A1
 refine at_step (v := .tuple [.agg [vs e_S_tree_Node x1.Nodes, .int .i64 x1.Root], .int .i64 x2, .int .i64 x3]) (h1 := h1) [(11, .tuple [.agg [vs e_S_tree_Node x1.Nodes, .int .i64 x1.Root], .int .i64 x2, .int .i64 x3])] H (fun fr => by kernel_rfl) (fun fr => Steps.call (by kernel_rfl) hr) ?_
 intro fr t H
 refine at_seg [(1, []), (2, []), (3, []), (4, [])] [(12, .agg [vs e_S_tree_Node x1.Nodes, .int .i64 x1.Root]), (13, .int .i64 x2), (14, .int .i64 x3)] H (noU_all rfl) (fun fr => by kernel_rfl) ?_
 intro fr H
 obtain ⟨h2, e1⟩ : ∃ x, x = h1.push (.cells none 2 [.slice none 0, .int .i64 (0 : Int)]) := ⟨_, rfl⟩
 replace A := (A.push _).to e1
 refine at_step (v := .ptr (some (h1.size, 0))) (h1 := h2) [(1, .ptr (some (h1.size, 0))), (12, .agg [vs e_S_tree_Node x1.Nodes, .int .i64 x1.Root]), (13, .int .i64 x2), (14, .int .i64 x3)] H (fun fr => by kernel_rfl) (fun fr => .of (s_n' (by kernel_rfl) (congrArg some e1.symm))) ?_
 intro fr t H
 obtain ⟨h3, hx, A1⟩ := A.st 0 rfl (o := 0) (new := [vs e_S_tree_Node x1.Nodes, .int .i64 x1.Root]) (ds := [vs e_S_tree_Node x1.Nodes, .int .i64 x1.Root]) (Nat.le_of_ble_eq_true rfl) rfl rfl
 replace A : HH g h3 [.obj h1.size (.cells none 2 [vs e_S_tree_Node x1.Nodes, .int .i64 x1.Root])] F := A1
 refine at_step (v := .tuple []) (h1 := h3) [(1, .ptr (some (h1.size, 0))), (13, .int .i64 x2), (14, .int .i64 x3)] H (fun fr => by kernel_rfl) (fun fr => .of (s_stG (by kernel_rfl) (stG_st hx rfl))) ?_
 intro fr t H
 refine at_seg [(7, []), (8, [])] [(1, .ptr (some (h1.size, 0))), (3, .int .i64 x3)] H (noU_all rfl) (fun fr => by kernel_rfl) ?_
 intro fr H
 refine at_nil ?_
 show AW cfg 7 g (right (right (bodyC cfg.P 7))) fr h3 _
 refine aw_seq (by kernel_rfl) ?_
 refine aw_reg (id := 2) (n := 9) [(0, []), (1, []), (2, []), (3, []), (4, []), (5, []), (6, []), (7, []), (8, [])] (by kernel_rfl) (by kernel_rfl) ?_
 have A1 := A.cut 0
 obtain ⟨⟨x4, x5, x6⟩, hx, hm⟩ := bind_some hm
 obtain ⟨v1, h4, hr, rfl, A1⟩ := ok_rex_Parse (av := [.str ([97, 124, 98] : List UInt8), .bool true]) hx (by kernel_rfl) A1
 replace A : HH g h4 [.obj h1.size (.cells none 2 [vs e_S_tree_Node x1.Nodes, .int .i64 x1.Root])] F := A.glue0 (n := 0) A1
 refine at_step (v := .tuple [.agg [vs e_S_tree_Node x4.Nodes, .int .i64 x4.Root], .int .i64 x5, .int .i64 x6]) (h1 := h4) [(1, .ptr (some (h1.size, 0))), (3, .int .i64 x3), (16, .tuple [.agg [vs e_S_tree_Node x4.Nodes, .int .i64 x4.Root], .int .i64 x5, .int .i64 x6])] H (fun fr => by kernel_rfl) (fun fr => Steps.call (by kernel_rfl) hr) ?_
 intro fr t H
 refine at_seg [(1, []), (2, []), (3, []), (4, [])] [(1, .ptr (some (h1.size, 0))), (3, .int .i64 x3), (17, .agg [vs e_S_tree_Node x4.Nodes, .int .i64 x4.Root]), (18, .int .i64 x5), (19, .int .i64 x6)] H (noU_all rfl) (fun fr => by kernel_rfl) ?_
 intro fr H
 obtain ⟨h5, e2⟩ : ∃ x, x = h4.push (.cells none 2 [.slice none 0, .int .i64 (0 : Int)]) := ⟨_, rfl⟩
 replace A := (A.push _).to e2
 refine at_step (v := .ptr (some (h4.size, 0))) (h1 := h5) [(1, .ptr (some (h1.size, 0))), (3, .int .i64 x3), (4, .ptr (some (h4.size, 0))), (17, .agg [vs e_S_tree_Node x4.Nodes, .int .i64 x4.Root]), (18, .int .i64 x5), (19, .int .i64 x6)] H (fun fr => by kernel_rfl) (fun fr => .of (s_n' (by kernel_rfl) (congrArg some e2.symm))) ?_
 intro fr t H
 obtain ⟨h6, hx, A1⟩ := A.st 0 rfl (o := 0) (new := [vs e_S_tree_Node x4.Nodes, .int .i64 x4.Root]) (ds := [vs e_S_tree_Node x4.Nodes, .int .i64 x4.Root]) (Nat.le_of_ble_eq_true rfl) rfl rfl
 replace A : HH g h6 [.obj h4.size (.cells none 2 [vs e_S_tree_Node x4.Nodes, .int .i64 x4.Root]), .obj h1.size (.cells none 2 [vs e_S_tree_Node x1.Nodes, .int .i64 x1.Root])] F := A1
 refine at_step (v := .tuple []) (h1 := h6) [(1, .ptr (some (h1.size, 0))), (3, .int .i64 x3), (4, .ptr (some (h4.size, 0))), (18, .int .i64 x5), (19, .int .i64 x6)] H (fun fr => by kernel_rfl) (fun fr => .of (s_stG (by kernel_rfl) (stG_st hx rfl))) ?_
 intro fr t H
 refine at_seg [(7, []), (8, [])] [(1, .ptr (some (h1.size, 0))), (3, .int .i64 x3), (4, .ptr (some (h4.size, 0))), (6, .int .i64 x6)] H (noU_all rfl) (fun fr => by kernel_rfl) ?_
 intro fr H
 refine at_nil ?_
 show AW cfg 7 g (right (right (right (bodyC cfg.P 7)))) fr h6 _
 refine aw_seq (by kernel_rfl) ?_
 refine aw_reg (id := 3) (n := 9) [(0, []), (1, []), (2, []), (3, []), (4, []), (5, []), (6, []), (7, []), (8, [])] (by kernel_rfl) (by kernel_rfl) ?_
 have A1 := A.cut 0
 obtain ⟨⟨x7, x8, x9⟩, hx, hm⟩ := bind_some hm
 obtain ⟨v1, h7, hr, rfl, A1⟩ := ok_rex_Parse (av := [.str ([97, 124, 98] : List UInt8), .bool false]) hx (by kernel_rfl) A1
 replace A : HH g h7 [.obj h4.size (.cells none 2 [vs e_S_tree_Node x4.Nodes, .int .i64 x4.Root]), .obj h1.size (.cells none 2 [vs e_S_tree_Node x1.Nodes, .int .i64 x1.Root])] F := A.glue0 (n := 0) A1
 refine at_step (v := .tuple [.agg [vs e_S_tree_Node x7.Nodes, .int .i64 x7.Root], .int .i64 x8, .int .i64 x9]) (h1 := h7) [(1, .ptr (some (h1.size, 0))), (3, .int .i64 x3), (4, .ptr (some (h4.size, 0))), (6, .int .i64 x6), (21, .tuple [.agg [vs e_S_tree_Node x7.Nodes, .int .i64 x7.Root], .int .i64 x8, .int .i64 x9])] H (fun fr => by kernel_rfl) (fun fr => Steps.call (by kernel_rfl) hr) ?_
 intro fr t H
 refine at_seg [(1, []), (2, []), (3, []), (4, [])] [(1, .ptr (some (h1.size, 0))), (3, .int .i64 x3), (4, .ptr (some (h4.size, 0))), (6, .int .i64 x6), (22, .agg [vs e_S_tree_Node x7.Nodes, .int .i64 x7.Root]), (23, .int .i64 x8), (24, .int .i64 x9)] H (noU_all rfl) (fun fr => by kernel_rfl) ?_
 intro fr H
 obtain ⟨h8, e3⟩ : ∃ x, x = h7.push (.cells none 2 [.slice none 0, .int .i64 (0 : Int)]) := ⟨_, rfl⟩
 replace A := (A.push _).to e3
 refine at_step (v := .ptr (some (h7.size, 0))) (h1 := h8) [(1, .ptr (some (h1.size, 0))), (3, .int .i64 x3), (4, .ptr (some (h4.size, 0))), (6, .int .i64 x6), (7, .ptr (some (h7.size, 0))), (22, .agg [vs e_S_tree_Node x7.Nodes, .int .i64 x7.Root]), (23, .int .i64 x8), (24, .int .i64 x9)] H (fun fr => by kernel_rfl) (fun fr => .of (s_n' (by kernel_rfl) (congrArg some e3.symm))) ?_
 intro fr t H
 obtain ⟨h9, hx, A1⟩ := A.st 0 rfl (o := 0) (new := [vs e_S_tree_Node x7.Nodes, .int .i64 x7.Root]) (ds := [vs e_S_tree_Node x7.Nodes, .int .i64 x7.Root]) (Nat.le_of_ble_eq_true rfl) rfl rfl
 replace A : HH g h9 [.obj h7.size (.cells none 2 [vs e_S_tree_Node x7.Nodes, .int .i64 x7.Root]), .obj h4.size (.cells none 2 [vs e_S_tree_Node x4.Nodes, .int .i64 x4.Root]), .obj h1.size (.cells none 2 [vs e_S_tree_Node x1.Nodes, .int .i64 x1.Root])] F := A1
 refine at_step (v := .tuple []) (h1 := h9) [(1, .ptr (some (h1.size, 0))), (3, .int .i64 x3), (4, .ptr (some (h4.size, 0))), (6, .int .i64 x6), (7, .ptr (some (h7.size, 0))), (23, .int .i64 x8), (24, .int .i64 x9)] H (fun fr => by kernel_rfl) (fun fr => .of (s_stG (by kernel_rfl) (stG_st hx rfl))) ?_
 intro fr t H
 refine at_seg [(7, []), (8, [])] [(1, .ptr (some (h1.size, 0))), (3, .int .i64 x3), (4, .ptr (some (h4.size, 0))), (6, .int .i64 x6), (7, .ptr (some (h7.size, 0))), (9, .int .i64 x9)] H (noU_all rfl) (fun fr => by kernel_rfl) ?_
 intro fr H
 refine at_nil ?_
 show AW cfg 7 g (right (right (right (right (bodyC cfg.P 7))))) fr h9 _
 refine aw_seq (by kernel_rfl) ?_
 refine aw_reg (id := 4) (n := 26) [(0, []), (1, []), (2, []), (3, []), (4, []), (5, []), (6, []), (7, []), (8, []), (9, []), (10, []), (11, []), (12, []), (13, []), (14, []), (15, []), (16, []), (17, []), (18, []), (19, []), (20, []), (21, []), (22, []), (23, []), (24, []), (25, [])] (by kernel_rfl) (by kernel_rfl) ?_
 refine at_seg [(0, []), (1, []), (2, [])] [(1, .ptr (some (h1.size, 0))), (4, .ptr (some (h4.size, 0))), (6, .int .i64 x6), (7, .ptr (some (h7.size, 0))), (9, .int .i64 x9), (27, .bool (x3 == (0 : Int)))] H (noU_all rfl) (fun fr => by kernel_rfl) ?_
 intro fr H
 obtain ⟨x10, ho, hm⟩ := bind_some hm
 refine at_cut [(3, []), (4, []), (5, []), (6, [])] (fun fr' h' => Has fr' 50 [(4, .ptr (some (h4.size, 0))), (6, .int .i64 x6), (7, .ptr (some (h7.size, 0))), (9, .int .i64 x9), (31, .bool x10)] ∧ HH g h' [.obj h7.size (.cells none 2 [vs e_S_tree_Node x7.Nodes, .int .i64 x7.Root]), .obj h4.size (.cells none 2 [vs e_S_tree_Node x4.Nodes, .int .i64 x4.Root]), .obj h1.size (.cells none 2 [vs e_S_tree_Node x1.Nodes, .int .i64 x1.Root])] F) ?_ ?_
 ·rcases iteB_some ho with ⟨hb, hm⟩ | ⟨hb, hm⟩
  ·replace H := H.know 27 hb (by kernel_rfl)
   refine at_step (v := .agg [vs e_S_tree_Node x1.Nodes, .int .i64 x1.Root]) (h1 := h9) [(4, .ptr (some (h4.size, 0))), (6, .int .i64 x6), (7, .ptr (some (h7.size, 0))), (9, .int .i64 x9), (27, .bool true), (28, .agg [vs e_S_tree_Node x1.Nodes, .int .i64 x1.Root])] H (fun fr => by kernel_rfl) (fun fr => .of (s_ldA (by kernel_rfl) (A.ldA 2 rfl (o := 0) (n := 2) ⟨Nat.le_of_ble_eq_true rfl, rfl⟩))) ?_
   intro fr t H
   have A1 := A.cut 0
   obtain ⟨x11, hx, hm⟩ := bind_some hm
   obtain ⟨v1, h11, hr, rfl, A1⟩ := ok_tree_Tree_Text (av := [.agg [vs e_S_tree_Node x1.Nodes, .int .i64 x1.Root]]) hx (by kernel_rfl) A1
   replace A : HH g h11 [.obj h7.size (.cells none 2 [vs e_S_tree_Node x7.Nodes, .int .i64 x7.Root]), .obj h4.size (.cells none 2 [vs e_S_tree_Node x4.Nodes, .int .i64 x4.Root]), .obj h1.size (.cells none 2 [vs e_S_tree_Node x1.Nodes, .int .i64 x1.Root])] F := A.glue0 (n := 0) A1
   refine at_step (v := .str x11) (h1 := h11) [(4, .ptr (some (h4.size, 0))), (6, .int .i64 x6), (7, .ptr (some (h7.size, 0))), (9, .int .i64 x9), (27, .bool true), (29, .str x11)] H (fun fr => by kernel_rfl) (fun fr => Steps.call (by kernel_rfl) hr) ?_
   intro fr t H
   refine at_seg [(5, []), (6, [])] [(4, .ptr (some (h4.size, 0))), (6, .int .i64 x6), (7, .ptr (some (h7.size, 0))), (9, .int .i64 x9), (31, .bool (x11 == ([40, 91, 54, 49, 93, 46, 60, 49, 58, 123, 48, 44, 58, 91, 54, 50, 93, 125, 62, 41] : List UInt8)))] H (noU_all rfl) (fun fr => by kernel_rfl) ?_
   intro fr H
   have e1 := Option.some.inj hm
   subst e1
   exact at_nil ⟨H.less _ (fun fr => by kernel_rfl), A⟩
  ·replace H := H.know 27 hb (by kernel_rfl)
   refine at_seg [(3, []), (4, []), (5, []), (6, [])] [(4, .ptr (some (h4.size, 0))), (6, .int .i64 x6), (7, .ptr (some (h7.size, 0))), (9, .int .i64 x9), (31, .bool false)] H (noU_all rfl) (fun fr => by kernel_rfl) ?_
   intro fr H
   have e1 := Option.some.inj hm
   subst e1
   exact at_nil ⟨H.less _ (fun fr => by kernel_rfl), A⟩
 ·clear A
  intro t fr h10 hK
  obtain ⟨H, A⟩ := hK
  refine at_seg [(7, [])] [(4, .ptr (some (h4.size, 0))), (6, .int .i64 x6), (7, .ptr (some (h7.size, 0))), (9, .int .i64 x9), (32, .bool x10)] H (noU_all rfl) (fun fr => by kernel_rfl) ?_
  intro fr H
  refine at_cut [(8, []), (9, []), (10, [])] (fun fr' h' => h10 = h' ∧ Has fr' 50 [(4, .ptr (some (h4.size, 0))), (7, .ptr (some (h7.size, 0))), (9, .int .i64 x9), (35, .bool (x10 && (x6 == (0 : Int))))]) ?_ ?_
  ·cases hb : (x10 : Bool) with
   | true =>
    replace H := H.know 32 hb (by kernel_rfl)
    refine at_seg [(8, []), (9, []), (10, [])] [(4, .ptr (some (h4.size, 0))), (7, .ptr (some (h7.size, 0))), (9, .int .i64 x9), (35, .bool (x6 == (0 : Int)))] H (noU_all rfl) (fun fr => by kernel_rfl) ?_
    intro fr H
    exact at_nil ⟨rfl, by first | exact H.less _ (fun fr => by rfl) | exact H.less _ (fun fr => by rw [hb]; rfl)⟩
   | false =>
    replace H := H.know 32 hb (by kernel_rfl)
    refine at_seg [(8, []), (9, []), (10, [])] [(4, .ptr (some (h4.size, 0))), (7, .ptr (some (h7.size, 0))), (9, .int .i64 x9), (35, .bool false)] H (noU_all rfl) (fun fr => by kernel_rfl) ?_
    intro fr H
    exact at_nil ⟨rfl, by first | exact H.less _ (fun fr => by rfl) | exact H.less _ (fun fr => by rw [hb]; rfl)⟩
  ·intro t fr h' hK
   obtain ⟨e, H⟩ := hK
   subst e
   refine at_seg [(11, [])] [(4, .ptr (some (h4.size, 0))), (7, .ptr (some (h7.size, 0))), (9, .int .i64 x9), (36, .bool (x10 && (x6 == (0 : Int))))] H (noU_all rfl) (fun fr => by kernel_rfl) ?_
   intro fr H
   obtain ⟨x12, ho, hm⟩ := bind_some hm
   refine at_cut [(12, []), (13, []), (14, []), (15, [])] (fun fr' h' => Has fr' 50 [(7, .ptr (some (h7.size, 0))), (9, .int .i64 x9), (40, .bool x12)] ∧ HH g h' [.obj h7.size (.cells none 2 [vs e_S_tree_Node x7.Nodes, .int .i64 x7.Root]), .obj h4.size (.cells none 2 [vs e_S_tree_Node x4.Nodes, .int .i64 x4.Root]), .obj h1.size (.cells none 2 [vs e_S_tree_Node x1.Nodes, .int .i64 x1.Root])] F) ?_ ?_
   ·rcases iteB_some ho with ⟨hb, hm⟩ | ⟨hb, hm⟩
    ·replace H := H.know 36 hb (by kernel_rfl)
     refine at_step (v := .agg [vs e_S_tree_Node x4.Nodes, .int .i64 x4.Root]) (h1 := h10) [(7, .ptr (some (h7.size, 0))), (9, .int .i64 x9), (36, .bool true), (37, .agg [vs e_S_tree_Node x4.Nodes, .int .i64 x4.Root])] H (fun fr => by kernel_rfl) (fun fr => .of (s_ldA (by kernel_rfl) (A.ldA 1 rfl (o := 0) (n := 2) ⟨Nat.le_of_ble_eq_true rfl, rfl⟩))) ?_
     intro fr t H
     have A1 := A.cut 0
     obtain ⟨x13, hx, hm⟩ := bind_some hm
     obtain ⟨v1, h13, hr, rfl, A1⟩ := ok_tree_Tree_Text (av := [.agg [vs e_S_tree_Node x4.Nodes, .int .i64 x4.Root]]) hx (by kernel_rfl) A1
     replace A : HH g h13 [.obj h7.size (.cells none 2 [vs e_S_tree_Node x7.Nodes, .int .i64 x7.Root]), .obj h4.size (.cells none 2 [vs e_S_tree_Node x4.Nodes, .int .i64 x4.Root]), .obj h1.size (.cells none 2 [vs e_S_tree_Node x1.Nodes, .int .i64 x1.Root])] F := A.glue0 (n := 0) A1
     refine at_step (v := .str x13) (h1 := h13) [(7, .ptr (some (h7.size, 0))), (9, .int .i64 x9), (36, .bool true), (38, .str x13)] H (fun fr => by kernel_rfl) (fun fr => Steps.call (by kernel_rfl) hr) ?_
     intro fr t H
     refine at_seg [(14, []), (15, [])] [(7, .ptr (some (h7.size, 0))), (9, .int .i64 x9), (40, .bool (x13 == ([40, 91, 54, 49, 93, 124, 91, 54, 50, 93, 41] : List UInt8)))] H (noU_all rfl) (fun fr => by kernel_rfl) ?_
     intro fr H
     have e1 := Option.some.inj hm
     subst e1
     exact at_nil ⟨H.less _ (fun fr => by kernel_rfl), A⟩
    ·replace H := H.know 36 hb (by kernel_rfl)
     refine at_seg [(12, []), (13, []), (14, []), (15, [])] [(7, .ptr (some (h7.size, 0))), (9, .int .i64 x9), (40, .bool false)] H (noU_all rfl) (fun fr => by kernel_rfl) ?_
     intro fr H
     have e1 := Option.some.inj hm
     subst e1
     exact at_nil ⟨H.less _ (fun fr => by kernel_rfl), A⟩
   ·clear A
    intro t fr h12 hK
    obtain ⟨H, A⟩ := hK
    refine at_seg [(16, [])] [(7, .ptr (some (h7.size, 0))), (9, .int .i64 x9), (41, .bool x12)] H (noU_all rfl) (fun fr => by kernel_rfl) ?_
    intro fr H
    refine at_cut [(17, []), (18, []), (19, [])] (fun fr' h' => h12 = h' ∧ Has fr' 50 [(7, .ptr (some (h7.size, 0))), (44, .bool (x12 && (x9 == (0 : Int))))]) ?_ ?_
    ·cases hb : (x12 : Bool) with
     | true =>
      replace H := H.know 41 hb (by kernel_rfl)
      refine at_seg [(17, []), (18, []), (19, [])] [(7, .ptr (some (h7.size, 0))), (44, .bool (x9 == (0 : Int)))] H (noU_all rfl) (fun fr => by kernel_rfl) ?_
      intro fr H
      exact at_nil ⟨rfl, by first | exact H.less _ (fun fr => by rfl) | exact H.less _ (fun fr => by rw [hb]; rfl)⟩
     | false =>
      replace H := H.know 41 hb (by kernel_rfl)
      refine at_seg [(17, []), (18, []), (19, [])] [(7, .ptr (some (h7.size, 0))), (44, .bool false)] H (noU_all rfl) (fun fr => by kernel_rfl) ?_
      intro fr H
      exact at_nil ⟨rfl, by first | exact H.less _ (fun fr => by rfl) | exact H.less _ (fun fr => by rw [hb]; rfl)⟩
    ·intro t fr h' hK
     obtain ⟨e, H⟩ := hK
     subst e
     refine at_seg [(20, [])] [(7, .ptr (some (h7.size, 0))), (45, .bool (x12 && (x9 == (0 : Int))))] H (noU_all rfl) (fun fr => by kernel_rfl) ?_
     intro fr H
     obtain ⟨x14, ho, hm⟩ := bind_some hm
     refine at_cut [(21, []), (22, []), (23, []), (24, [])] (fun fr' h' => Has fr' 50 [(49, .bool x14)] ∧ HH g h' [.obj h7.size (.cells none 2 [vs e_S_tree_Node x7.Nodes, .int .i64 x7.Root]), .obj h4.size (.cells none 2 [vs e_S_tree_Node x4.Nodes, .int .i64 x4.Root]), .obj h1.size (.cells none 2 [vs e_S_tree_Node x1.Nodes, .int .i64 x1.Root])] F) ?_ ?_
     ·rcases iteB_some ho with ⟨hb, hm⟩ | ⟨hb, hm⟩
      ·replace H := H.know 45 hb (by kernel_rfl)
       refine at_step (v := .agg [vs e_S_tree_Node x7.Nodes, .int .i64 x7.Root]) (h1 := h12) [(45, .bool true), (46, .agg [vs e_S_tree_Node x7.Nodes, .int .i64 x7.Root])] H (fun fr => by kernel_rfl) (fun fr => .of (s_ldA (by kernel_rfl) (A.ldA 0 rfl (o := 0) (n := 2) ⟨Nat.le_of_ble_eq_true rfl, rfl⟩))) ?_
       intro fr t H
       have A1 := A.cut 0
       obtain ⟨x15, hx, hm⟩ := bind_some hm
       obtain ⟨v1, h15, hr, rfl, A1⟩ := ok_tree_Tree_Text (av := [.agg [vs e_S_tree_Node x7.Nodes, .int .i64 x7.Root]]) hx (by kernel_rfl) A1
       replace A : HH g h15 [.obj h7.size (.cells none 2 [vs e_S_tree_Node x7.Nodes, .int .i64 x7.Root]), .obj h4.size (.cells none 2 [vs e_S_tree_Node x4.Nodes, .int .i64 x4.Root]), .obj h1.size (.cells none 2 [vs e_S_tree_Node x1.Nodes, .int .i64 x1.Root])] F := A.glue0 (n := 0) A1
       refine at_step (v := .str x15) (h1 := h15) [(45, .bool true), (47, .str x15)] H (fun fr => by kernel_rfl) (fun fr => Steps.call (by kernel_rfl) hr) ?_
       intro fr t H
       refine at_seg [(23, []), (24, [])] [(49, .bool (x15 == ([40, 91, 54, 49, 93, 46, 40, 91, 55, 99, 93, 46, 91, 54, 50, 93, 41, 41] : List UInt8)))] H (noU_all rfl) (fun fr => by kernel_rfl) ?_
       intro fr H
       have e1 := Option.some.inj hm
       subst e1
       exact at_nil ⟨H.less _ (fun fr => by kernel_rfl), A⟩
      ·replace H := H.know 45 hb (by kernel_rfl)
       refine at_seg [(21, []), (22, []), (23, []), (24, [])] [(49, .bool false)] H (noU_all rfl) (fun fr => by kernel_rfl) ?_
       intro fr H
       have e1 := Option.some.inj hm
       subst e1
       exact at_nil ⟨H.less _ (fun fr => by kernel_rfl), A⟩
     ·clear A
      intro t fr h14 hK
      obtain ⟨H, A⟩ := hK
      refine at_seg [(25, [])] [(0, .bool x14)] H (noU_all rfl) (fun fr => by kernel_rfl) ?_
      intro fr H
      refine at_nil ?_
      show AW cfg 7 g (right (right (right (right (right (bodyC cfg.P 7)))))) fr h14 _
      refine aw_ret (by kernel_rfl) ?_
      have e1 := Option.some.inj hm
      subst e1
      refine ⟨.inl rfl, .bool x14, resH H (fun fr => by kernel_rfl), ?_⟩
      replace A : HH g h14 [] F := (HH.dropF A 0)
      exact ⟨rfl, A⟩
/-! ### boulter/boulterlaw19.RexFull -/
noncomputable def M_boulterlaw19_RexFull_L0 (p0 : Int) (s : (List UInt8) × Int) : Option (((List UInt8) × Int) ⊕ (((List UInt8)))) :=
 match s with
 | (x1, x2) => iteB (decide (x2 < ((List.replicate (IntKind.i64.wrap ((500 : Int) + (Int.tmod (IntKind.i64.wrap p0) (30 : Int)))).toNat (0 : UInt8)).length : Int))) ((ixV x1 x2).bind fun x4 => some (.inl ((x1.set x2.toNat (97 : UInt8)), IntKind.i64.wrap (x2 + (1 : Int))))) (some (.inr x1))
noncomputable def M_boulterlaw19_RexFull (p0 : Int) (p1 : Bool) : Option (Bool) :=
 need (mkN 1 (IntKind.i64.wrap ((500 : Int) + (Int.tmod (IntKind.i64.wrap p0) (30 : Int))))) <| (loop (M_boulterlaw19_RexFull_L0 p0) ((List.replicate (IntKind.i64.wrap ((500 : Int) + (Int.tmod (IntKind.i64.wrap p0) (30 : Int)))).toNat (0 : UInt8)), (0 : Int))).bind fun x3 => (M_rex_Parse x3 p1).bind fun (x5, x6, x7) => need (mkN 1 (8193 : Int)) <| (M_rex_Parse (List.replicate (8193 : Int).toNat (0 : UInt8)) p1).bind fun (x8, x9, x10) => iteB (x10 != (12 : Int)) (some false) (iteB (decide ((IntKind.i64.wrap ((IntKind.i64.wrap ((2 : Int) * (IntKind.i64.wrap ((500 : Int) + (Int.tmod (IntKind.i64.wrap p0) (30 : Int)))))) - (1 : Int))) > (1024 : Int))) ((iteB ((((x5.Nodes.length : Int) == (0 : Int)) && (x6 == (0 : Int))) && (x7 == (8 : Int))) ((M_boulterlaw19_awake).bind fun x12 => some x12) (some false) : Option (Bool)).bind fun x11 => some x11) ((iteB (x7 == (0 : Int)) ((M_tree_Tree_Right x5).bind fun x14 => some x14) (some false) : Option (Bool)).bind fun x13 => (iteB x13 ((M_boulterlaw19_awake).bind fun x16 => some x16) (some false) : Option (Bool)).bind fun x15 => some x15))
theorem ok_boulterlaw19_RexFull {g : Gd} {h : AHeap} {F : List Ck} {p0 : Int} {p1 : Bool} {q0 : Bool} {av : List AVal} (hm : M_boulterlaw19_RexFull p0 p1 = some q0) (hc : canL (cfg.still 3) av = [.int .u8 p0, .bool p1]) (A : HH g h [] F) : ∃ v h', Runs cfg g h 3 av v h' ∧ v = .bool q0 ∧ HH g h' [] F := by
 refine runsQ1 (n := 75) (rs := [.tmp 4]) (by kernel_rfl) hc (by kernel_rfl) ?_
 clear hc
 unfold M_boulterlaw19_RexFull at hm
 refine start (n := 75) [(0, .int .u8 p0), (1, .bool p1)] (by kernel_rfl) (by kernel_rfl) ?_
 intro fr H
 refine aw_seq (by kernel_rfl) ?_
 refine aw_reg (id := 0) (n := 1) [(0, [])] (by kernel_rfl) (by kernel_rfl) ?_
 refine at_seg [(0, [])] [(0, .int .u8 p0), (1, .bool p1)] H (noU_all rfl) (fun fr => by kernel_rfl) ?_
 intro fr H
 refine at_nil ?_
 show AW cfg 3 g (right (bodyC cfg.P 3)) fr h _
 refine aw_seq (by kernel_rfl) ?_
 refine aw_reg (id := 1) (n := 5) [(0, []), (1, []), (2, []), (3, []), (4, [])] (by kernel_rfl) (by kernel_rfl) ?_
 refine at_seg [(0, []), (1, []), (2, []), (3, []), (4, [])] [(1, .bool p1), (5, .int .i64 (IntKind.i64.wrap ((500 : Int) + (Int.tmod (IntKind.i64.wrap p0) (30 : Int)))))] H (noU_all rfl) (fun fr => by kernel_rfl) ?_
 intro fr H
 refine at_nil ?_
 show AW cfg 3 g (right (right (bodyC cfg.P 3))) fr h _
 refine aw_seq (by kernel_rfl) ?_
 refine aw_reg (id := 2) (n := 3) [(0, []), (1, []), (2, [])] (by kernel_rfl) (by kernel_rfl) ?_
 refine at_seg [(0, [])] [(1, .bool p1), (5, .int .i64 (IntKind.i64.wrap ((500 : Int) + (Int.tmod (IntKind.i64.wrap p0) (30 : Int))))), (18, .int .i64 (IntKind.i64.wrap ((500 : Int) + (Int.tmod (IntKind.i64.wrap p0) (30 : Int)))))] H (noU_all rfl) (fun fr => by kernel_rfl) ?_
 intro fr H
 obtain ⟨hb, hm⟩ := need_some hm
 obtain ⟨h1, e1⟩ : ∃ x, x = h.push (.cells (some 5) 2 (lst eY (List.replicate (IntKind.i64.wrap ((500 : Int) + (Int.tmod (IntKind.i64.wrap p0) (30 : Int)))).toNat (0 : UInt8)))) := ⟨_, rfl⟩
 replace A := (A.pushL _ _).to e1
 refine at_step (v := rowV (some h.size) (List.replicate (IntKind.i64.wrap ((500 : Int) + (Int.tmod (IntKind.i64.wrap p0) (30 : Int)))).toNat (0 : UInt8)).length) (h1 := h1) [(1, .bool p1), (5, .int .i64 (IntKind.i64.wrap ((500 : Int) + (Int.tmod (IntKind.i64.wrap p0) (30 : Int))))), (19, rowV (some h.size) ((List.replicate (IntKind.i64.wrap ((500 : Int) + (Int.tmod (IntKind.i64.wrap p0) (30 : Int)))).toNat (0 : UInt8)).length))] H (fun fr => by kernel_rfl) (fun fr => .of (s_mkO (e := eY) encY (x := (0 : UInt8)) (by kernel_rfl) hb (congrArg some e1.symm))) ?_
 intro fr t H
 refine at_seg [(2, [])] [(1, .bool p1), (5, .int .i64 (IntKind.i64.wrap ((500 : Int) + (Int.tmod (IntKind.i64.wrap p0) (30 : Int))))), (6, rowV (some h.size) ((List.replicate (IntKind.i64.wrap ((500 : Int) + (Int.tmod (IntKind.i64.wrap p0) (30 : Int)))).toNat (0 : UInt8)).length))] H (noU_all rfl) (fun fr => by kernel_rfl) ?_
 intro fr H
 refine at_nil ?_
 show AW cfg 3 g (right (right (right (bodyC cfg.P 3)))) fr h1 _
 refine aw_seq (by kernel_rfl) ?_
 refine aw_seq (by kernel_rfl) ?_
 refine aw_reg (id := 3) (n := 3) [(0, []), (1, []), (2, [])] (by kernel_rfl) (by kernel_rfl) ?_
 refine at_seg [(0, []), (1, []), (2, [])] [(1, .bool p1), (5, .int .i64 (IntKind.i64.wrap ((500 : Int) + (Int.tmod (IntKind.i64.wrap p0) (30 : Int))))), (6, rowV (some h.size) ((List.replicate (IntKind.i64.wrap ((500 : Int) + (Int.tmod (IntKind.i64.wrap p0) (30 : Int)))).toNat (0 : UInt8)).length)), (21, .int .i64 ((List.replicate (IntKind.i64.wrap ((500 : Int) + (Int.tmod (IntKind.i64.wrap p0) (30 : Int)))).toNat (0 : UInt8)).length : Int)), (22, .int .i64 (0 : Int))] H (noU_all rfl) (fun fr => by kernel_rfl) ?_
 intro fr H
 refine at_nil ?_
 show AW cfg 3 g (right (left (right (right (right (bodyC cfg.P 3)))))) fr h1 _
 refine aw_block (id := 0) (by kernel_rfl) ?_
 obtain ⟨o1, ho, hm⟩ := bind_some hm
 refine aw_mono (Q' := fun e fr' h' => (∃ (x3 : List UInt8), e = .exit 0 ∧ x3 = o1 ∧ ∃ (hl2 : x3.length = (List.replicate (IntKind.i64.wrap ((500 : Int) + (Int.tmod (IntKind.i64.wrap p0) (30 : Int)))).toNat (0 : UInt8)).length), Has fr' 75 [(1, .bool p1), (5, .int .i64 (IntKind.i64.wrap ((500 : Int) + (Int.tmod (IntKind.i64.wrap p0) (30 : Int))))), (6, rowV (some h.size) x3.length)] ∧ HH g h' [.lst (some h.size) 5 (lst eY x3)] F) ∨ False) ?_ ?_
 ·refine aw_loop (by kernel_rfl) (fun (s : (List UInt8) × Int) fr' h' => ∃ (x1 : List UInt8) (x2 : Int), (x1, x2) = s ∧ ∃ (hl1 : x1.length = (List.replicate (IntKind.i64.wrap ((500 : Int) + (Int.tmod (IntKind.i64.wrap p0) (30 : Int)))).toNat (0 : UInt8)).length), Has fr' 75 [(1, .bool p1), (5, .int .i64 (IntKind.i64.wrap ((500 : Int) + (Int.tmod (IntKind.i64.wrap p0) (30 : Int))))), (6, rowV (some h.size) x1.length), (21, .int .i64 ((List.replicate (IntKind.i64.wrap ((500 : Int) + (Int.tmod (IntKind.i64.wrap p0) (30 : Int)))).toNat (0 : UInt8)).length : Int)), (22, .int .i64 x2)] ∧ HH g h' [.lst (some h.size) 5 (lst eY x1)] F) ho ⟨(List.replicate (IntKind.i64.wrap ((500 : Int) + (Int.tmod (IntKind.i64.wrap p0) (30 : Int)))).toNat (0 : UInt8)), (0 : Int), rfl, rfl, H.less _ (fun fr => by kernel_rfl), A⟩ ?_
  clear ho hm H A
  intro s q fr h2 hI hm
  obtain ⟨x1, x2, rfl, hl1, H, A⟩ := hI
  unfold M_boulterlaw19_RexFull_L0 at hm
  refine aw_seq (by kernel_rfl) ?_
  refine aw_reg (id := 4) (n := 1) [(0, [])] (by kernel_rfl) (by kernel_rfl) ?_
  refine at_seg [(0, [])] [(1, .bool p1), (5, .int .i64 (IntKind.i64.wrap ((500 : Int) + (Int.tmod (IntKind.i64.wrap p0) (30 : Int))))), (6, rowV (some h.size) x1.length), (21, .int .i64 ((List.replicate (IntKind.i64.wrap ((500 : Int) + (Int.tmod (IntKind.i64.wrap p0) (30 : Int)))).toNat (0 : UInt8)).length : Int)), (22, .int .i64 x2), (23, .bool (decide (x2 < ((List.replicate (IntKind.i64.wrap ((500 : Int) + (Int.tmod (IntKind.i64.wrap p0) (30 : Int)))).toNat (0 : UInt8)).length : Int))))] H (noU_all rfl) (fun fr => by kernel_rfl) ?_
  intro fr H
  refine at_nil ?_
  show AW cfg 3 g (right (left (left (right (left (right (right (right (bodyC cfg.P 3))))))))) fr h2 _
  refine aw_seq (by kernel_rfl) ?_
  rcases iteB_some hm with ⟨hb, hm⟩ | ⟨hb, hm⟩
  ·replace H := H.know 23 hb (by kernel_rfl)
   refine aw_true (x := .tmp 23) (by kernel_rfl) H (fun fr => by kernel_rfl) ?_
   refine aw_skip (by kernel_rfl) ?_
   show AW cfg 3 g (right (right (left (left (right (left (right (right (right (bodyC cfg.P 3)))))))))) fr h2 _
   refine aw_seq (by kernel_rfl) ?_
   refine aw_block (id := 1) (by kernel_rfl) ?_
   refine aw_seq (by kernel_rfl) ?_
   refine aw_reg (id := 5) (n := 2) [(0, []), (1, [])] (by kernel_rfl) (by kernel_rfl) ?_
   refine at_seg [(0, []), (1, [])] [(1, .bool p1), (5, .int .i64 (IntKind.i64.wrap ((500 : Int) + (Int.tmod (IntKind.i64.wrap p0) (30 : Int))))), (6, rowV (some h.size) x1.length), (7, .int .i64 x2), (21, .int .i64 ((List.replicate (IntKind.i64.wrap ((500 : Int) + (Int.tmod (IntKind.i64.wrap p0) (30 : Int)))).toNat (0 : UInt8)).length : Int)), (22, .int .i64 x2)] H (noU_all rfl) (fun fr => by kernel_rfl) ?_
   intro fr H
   refine at_nil ?_
   show AW cfg 3 g (right (left (left (right (right (left (left (right (left (right (right (right (bodyC cfg.P 3))))))))))))) fr h2 _
   refine aw_reg (id := 6) (n := 4) [(0, []), (1, []), (2, []), (3, [])] (by kernel_rfl) (by kernel_rfl) ?_
   refine at_seg [(0, []), (1, [])] [(1, .bool p1), (5, .int .i64 (IntKind.i64.wrap ((500 : Int) + (Int.tmod (IntKind.i64.wrap p0) (30 : Int))))), (6, rowV (some h.size) x1.length), (21, .int .i64 ((List.replicate (IntKind.i64.wrap ((500 : Int) + (Int.tmod (IntKind.i64.wrap p0) (30 : Int)))).toNat (0 : UInt8)).length : Int)), (22, .int .i64 x2), (25, rowV (some h.size) x1.length), (26, .int .i64 x2)] H (noU_all rfl) (fun fr => by kernel_rfl) ?_
   intro fr H
   obtain ⟨x4, hx, hm⟩ := bind_some hm
   obtain ⟨i1, er1, _, hx, hq1⟩ := HH.ixO encY (by decide) A 0 (xs := x1) rfl hx
   refine at_step (v := .ptr (some (i1, x2.toNat * 1))) (h1 := h2) [(1, .bool p1), (5, .int .i64 (IntKind.i64.wrap ((500 : Int) + (Int.tmod (IntKind.i64.wrap p0) (30 : Int))))), (6, rowV (some h.size) x1.length), (21, .int .i64 ((List.replicate (IntKind.i64.wrap ((500 : Int) + (Int.tmod (IntKind.i64.wrap p0) (30 : Int)))).toNat (0 : UInt8)).length : Int)), (22, .int .i64 x2), (27, .ptr (some (i1, x2.toNat * 1)))] H (fun fr => by kernel_rfl) (fun fr => .of (s_ixL (s := rowS (some h.size) x1.length) (by kernel_rfl) hx)) ?_
   intro fr t H
   obtain ⟨h3, hx, A1⟩ := HH.stO encY A 0 rfl er1 hq1 (y := (97 : UInt8)) (o := 0) (new := [.int .u8 (97 : Int)]) rfl rfl (Nat.le_of_ble_eq_true rfl)
   have hl3 : (x1.set x2.toNat (97 : UInt8)).length = (List.replicate (IntKind.i64.wrap ((500 : Int) + (Int.tmod (IntKind.i64.wrap p0) (30 : Int)))).toNat (0 : UInt8)).length := List.length_set.trans hl1
   have el : rowV (some h.size) x1.length = rowV (some h.size) (x1.set x2.toNat (97 : UInt8)).length := congrArg _ List.length_set.symm
   try rw [el] at H
   try rw [el] at A1
   replace A : HH g h3 [.lst (some h.size) 5 (lst eY (x1.set x2.toNat (97 : UInt8)))] F := A1
   refine at_step (v := .tuple []) (h1 := h3) [(1, .bool p1), (5, .int .i64 (IntKind.i64.wrap ((500 : Int) + (Int.tmod (IntKind.i64.wrap p0) (30 : Int))))), (6, rowV (some h.size) ((x1.set x2.toNat (97 : UInt8)).length)), (21, .int .i64 ((List.replicate (IntKind.i64.wrap ((500 : Int) + (Int.tmod (IntKind.i64.wrap p0) (30 : Int)))).toNat (0 : UInt8)).length : Int)), (22, .int .i64 x2)] H (fun fr => by kernel_rfl) (fun fr => .of (s_st (by kernel_rfl) rfl hx)) ?_
   intro fr t H
   refine at_nil ?_
   show AW cfg 3 g (right (right (right (left (left (right (left (right (right (right (bodyC cfg.P 3))))))))))) fr h3 _
   refine aw_reg (id := 7) (n := 2) [(0, []), (1, [])] (by kernel_rfl) (by kernel_rfl) ?_
   refine at_seg [(0, []), (1, [])] [(1, .bool p1), (5, .int .i64 (IntKind.i64.wrap ((500 : Int) + (Int.tmod (IntKind.i64.wrap p0) (30 : Int))))), (6, rowV (some h.size) ((x1.set x2.toNat (97 : UInt8)).length)), (21, .int .i64 ((List.replicate (IntKind.i64.wrap ((500 : Int) + (Int.tmod (IntKind.i64.wrap p0) (30 : Int)))).toNat (0 : UInt8)).length : Int)), (22, .int .i64 (IntKind.i64.wrap (x2 + (1 : Int))))] H (noU_all rfl) (fun fr => by kernel_rfl) ?_
   intro fr H
   refine at_nil ?_
   exact Exists.intro ((x1.set x2.toNat (97 : UInt8)), IntKind.i64.wrap (x2 + (1 : Int))) (And.intro (Option.some.inj hm).symm ⟨(x1.set x2.toNat (97 : UInt8)), IntKind.i64.wrap (x2 + (1 : Int)), rfl, hl3, H.less _ (fun fr => by kernel_rfl), A⟩)
  ·replace H := H.know 23 hb (by kernel_rfl)
   refine aw_false (x := .tmp 23) (by kernel_rfl) H (fun fr => by kernel_rfl) ?_
   refine aw_exit (i := 0) (by kernel_rfl) ?_
   exact Exists.intro _ (And.intro (Option.some.inj hm).symm (fun e => Or.inl ⟨x1, rfl, e, hl1, H.less _ (fun fr => by kernel_rfl), A⟩))
 ·clear ho
  clear A
  intro e fr h4 hQ
  rcases hQ with ⟨x3, rfl, rfl, hl2, H, A⟩ | hF
  ·skip
   show AW cfg 3 g (right (right (right (right (bodyC cfg.P 3))))) fr h4 _
   refine aw_seq (by kernel_rfl) ?_
   refine aw_reg (id := 8) (n := 12) [(0, []), (1, []), (2, []), (3, []), (4, []), (5, []), (6, []), (7, []), (8, []), (9, []), (10, []), (11, [])] (by kernel_rfl) (by kernel_rfl) ?_
   refine at_seg [(0, [])] [(1, .bool p1), (5, .int .i64 (IntKind.i64.wrap ((500 : Int) + (Int.tmod (IntKind.i64.wrap p0) (30 : Int))))), (30, rowV (some h.size) x3.length)] H (noU_all rfl) (fun fr => by kernel_rfl) ?_
   intro fr H
   refine at_step (v := .str x3) (h1 := h4) [(1, .bool p1), (5, .int .i64 (IntKind.i64.wrap ((500 : Int) + (Int.tmod (IntKind.i64.wrap p0) (30 : Int))))), (31, .str x3)] H (fun fr => by kernel_rfl) (fun fr => .of (s_byO (xs := x3) A 0 rfl (by kernel_rfl))) ?_
   intro fr t H
   refine at_seg [(2, [])] [(1, .bool p1), (5, .int .i64 (IntKind.i64.wrap ((500 : Int) + (Int.tmod (IntKind.i64.wrap p0) (30 : Int))))), (31, .str x3), (32, .bool p1)] H (noU_all rfl) (fun fr => by kernel_rfl) ?_
   intro fr H
   have A1 := A.cut 0
   obtain ⟨⟨x5, x6, x7⟩, hx, hm⟩ := bind_some hm
   obtain ⟨v1, h5, hr, rfl, A1⟩ := ok_rex_Parse (av := [.str x3, .bool p1]) hx (by kernel_rfl) A1
   replace A : HH g h5 [.lst (some h.size) 5 (lst eY x3)] F := A.glue0 (n := 0) A1
   refine at_step (v := .tuple [.agg [vs e_S_tree_Node x5.Nodes, .int .i64 x5.Root], .int .i64 x6, .int .i64 x7]) (h1 := h5) [(1, .bool p1), (5, .int .i64 (IntKind.i64.wrap ((500 : Int) + (Int.tmod (IntKind.i64.wrap p0) (30 : Int))))), (33, .tuple [.agg [vs e_S_tree_Node x5.Nodes, .int .i64 x5.Root], .int .i64 x6, .int .i64 x7])] H (fun fr => by kernel_rfl) (fun fr => Steps.call (by kernel_rfl) hr) ?_
   intro fr t H
   refine at_seg [(4, []), (5, []), (6, []), (7, [])] [(1, .bool p1), (5, .int .i64 (IntKind.i64.wrap ((500 : Int) + (Int.tmod (IntKind.i64.wrap p0) (30 : Int))))), (34, .agg [vs e_S_tree_Node x5.Nodes, .int .i64 x5.Root]), (35, .int .i64 x6), (36, .int .i64 x7)] H (noU_all rfl) (fun fr => by kernel_rfl) ?_
   intro fr H
   obtain ⟨h6, e2⟩ : ∃ x, x = h5.push (.cells none 2 [.slice none 0, .int .i64 (0 : Int)]) := ⟨_, rfl⟩
   replace A := (A.push _).to e2
   refine at_step (v := .ptr (some (h5.size, 0))) (h1 := h6) [(1, .bool p1), (5, .int .i64 (IntKind.i64.wrap ((500 : Int) + (Int.tmod (IntKind.i64.wrap p0) (30 : Int))))), (8, .ptr (some (h5.size, 0))), (34, .agg [vs e_S_tree_Node x5.Nodes, .int .i64 x5.Root]), (35, .int .i64 x6), (36, .int .i64 x7)] H (fun fr => by kernel_rfl) (fun fr => .of (s_n' (by kernel_rfl) (congrArg some e2.symm))) ?_
   intro fr t H
   obtain ⟨h7, hx, A1⟩ := A.st 0 rfl (o := 0) (new := [vs e_S_tree_Node x5.Nodes, .int .i64 x5.Root]) (ds := [vs e_S_tree_Node x5.Nodes, .int .i64 x5.Root]) (Nat.le_of_ble_eq_true rfl) rfl rfl
   replace A : HH g h7 [.obj h5.size (.cells none 2 [vs e_S_tree_Node x5.Nodes, .int .i64 x5.Root]), .lst (some h.size) 5 (lst eY x3)] F := A1
   refine at_step (v := .tuple []) (h1 := h7) [(1, .bool p1), (5, .int .i64 (IntKind.i64.wrap ((500 : Int) + (Int.tmod (IntKind.i64.wrap p0) (30 : Int))))), (8, .ptr (some (h5.size, 0))), (35, .int .i64 x6), (36, .int .i64 x7)] H (fun fr => by kernel_rfl) (fun fr => .of (s_stG (by kernel_rfl) (stG_st hx rfl))) ?_
   intro fr t H
   refine at_seg [(10, []), (11, [])] [(1, .bool p1), (5, .int .i64 (IntKind.i64.wrap ((500 : Int) + (Int.tmod (IntKind.i64.wrap p0) (30 : Int))))), (8, .ptr (some (h5.size, 0))), (9, .int .i64 x6), (10, .int .i64 x7)] H (noU_all rfl) (fun fr => by kernel_rfl) ?_
   intro fr H
   refine at_nil ?_
   show AW cfg 3 g (right (right (right (right (right (bodyC cfg.P 3)))))) fr h7 _
   refine aw_seq (by kernel_rfl) ?_
   refine aw_reg (id := 9) (n := 12) [(0, []), (1, []), (2, []), (3, []), (4, []), (5, []), (6, []), (7, []), (8, []), (9, []), (10, []), (11, [])] (by kernel_rfl) (by kernel_rfl) ?_
   obtain ⟨hb, hm⟩ := need_some hm
   obtain ⟨h8, e3⟩ : ∃ x, x = h7.push (.cells (some 5) 2 (lst eY (List.replicate (8193 : Int).toNat (0 : UInt8)))) := ⟨_, rfl⟩
   replace A := (A.pushL _ _).to e3
   refine at_step (v := rowV (some h7.size) (List.replicate (8193 : Int).toNat (0 : UInt8)).length) (h1 := h8) [(1, .bool p1), (5, .int .i64 (IntKind.i64.wrap ((500 : Int) + (Int.tmod (IntKind.i64.wrap p0) (30 : Int))))), (8, .ptr (some (h5.size, 0))), (9, .int .i64 x6), (10, .int .i64 x7), (38, rowV (some h7.size) ((List.replicate (8193 : Int).toNat (0 : UInt8)).length))] H (fun fr => by kernel_rfl) (fun fr => .of (s_mkO (e := eY) encY (x := (0 : UInt8)) (by kernel_rfl) hb (congrArg some e3.symm))) ?_
   intro fr t H
   refine at_step (v := .str (List.replicate (8193 : Int).toNat (0 : UInt8))) (h1 := h8) [(1, .bool p1), (5, .int .i64 (IntKind.i64.wrap ((500 : Int) + (Int.tmod (IntKind.i64.wrap p0) (30 : Int))))), (8, .ptr (some (h5.size, 0))), (9, .int .i64 x6), (10, .int .i64 x7), (39, .str (List.replicate (8193 : Int).toNat (0 : UInt8)))] H (fun fr => by kernel_rfl) (fun fr => .of (s_byO (xs := (List.replicate (8193 : Int).toNat (0 : UInt8))) A 0 rfl (by kernel_rfl))) ?_
   intro fr t H
   refine at_seg [(2, [])] [(5, .int .i64 (IntKind.i64.wrap ((500 : Int) + (Int.tmod (IntKind.i64.wrap p0) (30 : Int))))), (8, .ptr (some (h5.size, 0))), (9, .int .i64 x6), (10, .int .i64 x7), (39, .str (List.replicate (8193 : Int).toNat (0 : UInt8))), (40, .bool p1)] H (noU_all rfl) (fun fr => by kernel_rfl) ?_
   intro fr H
   have A1 := A.cut 0
   obtain ⟨⟨x8, x9, x10⟩, hx, hm⟩ := bind_some hm
   obtain ⟨v1, h9, hr, rfl, A1⟩ := ok_rex_Parse (av := [.str (List.replicate (8193 : Int).toNat (0 : UInt8)), .bool p1]) hx (by kernel_rfl) A1
   replace A : HH g h9 [.lst (some h7.size) 5 (lst eY (List.replicate (8193 : Int).toNat (0 : UInt8))), .obj h5.size (.cells none 2 [vs e_S_tree_Node x5.Nodes, .int .i64 x5.Root]), .lst (some h.size) 5 (lst eY x3)] F := A.glue0 (n := 0) A1
   refine at_step (v := .tuple [.agg [vs e_S_tree_Node x8.Nodes, .int .i64 x8.Root], .int .i64 x9, .int .i64 x10]) (h1 := h9) [(5, .int .i64 (IntKind.i64.wrap ((500 : Int) + (Int.tmod (IntKind.i64.wrap p0) (30 : Int))))), (8, .ptr (some (h5.size, 0))), (9, .int .i64 x6), (10, .int .i64 x7), (41, .tuple [.agg [vs e_S_tree_Node x8.Nodes, .int .i64 x8.Root], .int .i64 x9, .int .i64 x10])] H (fun fr => by kernel_rfl) (fun fr => Steps.call (by kernel_rfl) hr) ?_
   intro fr t H
   refine at_seg [(4, []), (5, []), (6, []), (7, [])] [(5, .int .i64 (IntKind.i64.wrap ((500 : Int) + (Int.tmod (IntKind.i64.wrap p0) (30 : Int))))), (8, .ptr (some (h5.size, 0))), (9, .int .i64 x6), (10, .int .i64 x7), (42, .agg [vs e_S_tree_Node x8.Nodes, .int .i64 x8.Root]), (43, .int .i64 x9), (44, .int .i64 x10)] H (noU_all rfl) (fun fr => by kernel_rfl) ?_
   intro fr H
   obtain ⟨h10, e4⟩ : ∃ x, x = h9.push (.cells none 2 [.slice none 0, .int .i64 (0 : Int)]) := ⟨_, rfl⟩
   replace A := (A.push _).to e4
   refine at_step (v := .ptr (some (h9.size, 0))) (h1 := h10) [(5, .int .i64 (IntKind.i64.wrap ((500 : Int) + (Int.tmod (IntKind.i64.wrap p0) (30 : Int))))), (8, .ptr (some (h5.size, 0))), (9, .int .i64 x6), (10, .int .i64 x7), (11, .ptr (some (h9.size, 0))), (42, .agg [vs e_S_tree_Node x8.Nodes, .int .i64 x8.Root]), (43, .int .i64 x9), (44, .int .i64 x10)] H (fun fr => by kernel_rfl) (fun fr => .of (s_n' (by kernel_rfl) (congrArg some e4.symm))) ?_
   intro fr t H
   obtain ⟨h11, hx, A1⟩ := A.st 0 rfl (o := 0) (new := [vs e_S_tree_Node x8.Nodes, .int .i64 x8.Root]) (ds := [vs e_S_tree_Node x8.Nodes, .int .i64 x8.Root]) (Nat.le_of_ble_eq_true rfl) rfl rfl
   replace A : HH g h11 [.obj h9.size (.cells none 2 [vs e_S_tree_Node x8.Nodes, .int .i64 x8.Root]), .lst (some h7.size) 5 (lst eY (List.replicate (8193 : Int).toNat (0 : UInt8))), .obj h5.size (.cells none 2 [vs e_S_tree_Node x5.Nodes, .int .i64 x5.Root]), .lst (some h.size) 5 (lst eY x3)] F := A1
   refine at_step (v := .tuple []) (h1 := h11) [(5, .int .i64 (IntKind.i64.wrap ((500 : Int) + (Int.tmod (IntKind.i64.wrap p0) (30 : Int))))), (8, .ptr (some (h5.size, 0))), (9, .int .i64 x6), (10, .int .i64 x7), (43, .int .i64 x9), (44, .int .i64 x10)] H (fun fr => by kernel_rfl) (fun fr => .of (s_stG (by kernel_rfl) (stG_st hx rfl))) ?_
   intro fr t H
   refine at_seg [(10, []), (11, [])] [(5, .int .i64 (IntKind.i64.wrap ((500 : Int) + (Int.tmod (IntKind.i64.wrap p0) (30 : Int))))), (8, .ptr (some (h5.size, 0))), (9, .int .i64 x6), (10, .int .i64 x7), (13, .int .i64 x10)] H (noU_all rfl) (fun fr => by kernel_rfl) ?_
   intro fr H
   refine at_nil ?_
   show AW cfg 3 g (right (right (right (right (right (right (bodyC cfg.P 3))))))) fr h11 _
   refine aw_seq (by kernel_rfl) ?_
   refine aw_seq (by kernel_rfl) ?_
   refine aw_reg (id := 10) (n := 2) [(0, []), (1, [])] (by kernel_rfl) (by kernel_rfl) ?_
   refine at_seg [(0, []), (1, [])] [(5, .int .i64 (IntKind.i64.wrap ((500 : Int) + (Int.tmod (IntKind.i64.wrap p0) (30 : Int))))), (8, .ptr (some (h5.size, 0))), (9, .int .i64 x6), (10, .int .i64 x7), (46, .bool (x10 != (12 : Int)))] H (noU_all rfl) (fun fr => by kernel_rfl) ?_
   intro fr H
   refine at_nil ?_
   show AW cfg 3 g (right (left (right (right (right (right (right (right (bodyC cfg.P 3))))))))) fr h11 _
   rcases iteB_some hm with ⟨hb, hm⟩ | ⟨hb, hm⟩
   ·replace H := H.know 46 hb (by kernel_rfl)
    refine aw_true (x := .tmp 46) (by kernel_rfl) H (fun fr => by kernel_rfl) ?_
    refine aw_seq (by kernel_rfl) ?_
    refine aw_reg (id := 11) (n := 1) [(0, [])] (by kernel_rfl) (by kernel_rfl) ?_
    refine at_seg [(0, [])] [(4, .bool false)] H (noU_all rfl) (fun fr => by kernel_rfl) ?_
    intro fr H
    refine at_nil ?_
    show AW cfg 3 g (right (left (right (left (right (right (right (right (right (right (bodyC cfg.P 3))))))))))) fr h11 _
    refine aw_ret (by kernel_rfl) ?_
    have e1 := Option.some.inj hm
    subst e1
    refine ⟨.inl rfl, .bool false, resH H (fun fr => by kernel_rfl), ?_⟩
    replace A : HH g h11 [] F := (HH.dropF A 0)
    exact ⟨rfl, A⟩
   ·replace H := H.know 46 hb (by kernel_rfl)
    refine aw_false (x := .tmp 46) (by kernel_rfl) H (fun fr => by kernel_rfl) ?_
    refine aw_skip (by kernel_rfl) ?_
    show AW cfg 3 g (right (right (right (right (right (right (right (bodyC cfg.P 3)))))))) fr h11 _
    refine aw_seq (by kernel_rfl) ?_
    refine aw_seq (by kernel_rfl) ?_
    refine aw_reg (id := 12) (n := 4) [(0, []), (1, []), (2, []), (3, [])] (by kernel_rfl) (by kernel_rfl) ?_
    refine at_seg [(0, []), (1, []), (2, []), (3, [])] [(8, .ptr (some (h5.size, 0))), (9, .int .i64 x6), (10, .int .i64 x7), (50, .bool (decide ((IntKind.i64.wrap ((IntKind.i64.wrap ((2 : Int) * (IntKind.i64.wrap ((500 : Int) + (Int.tmod (IntKind.i64.wrap p0) (30 : Int)))))) - (1 : Int))) > (1024 : Int))))] H (noU_all rfl) (fun fr => by kernel_rfl) ?_
    intro fr H
    refine at_nil ?_
    show AW cfg 3 g (right (left (right (right (right (right (right (right (right (bodyC cfg.P 3)))))))))) fr h11 _
    rcases iteB_some hm with ⟨hb, hm⟩ | ⟨hb, hm⟩
    ·replace H := H.know 50 hb (by kernel_rfl)
     refine aw_true (x := .tmp 50) (by kernel_rfl) H (fun fr => by kernel_rfl) ?_
     refine aw_seq (by kernel_rfl) ?_
     refine aw_reg (id := 13) (n := 16) [(0, []), (1, []), (2, []), (3, []), (4, []), (5, []), (6, []), (7, []), (8, []), (9, []), (10, []), (11, []), (12, []), (13, []), (14, []), (15, [])] (by kernel_rfl) (by kernel_rfl) ?_
     refine at_seg [(0, [])] [(9, .int .i64 x6), (10, .int .i64 x7), (51, .ptr (some (h5.size, 0)))] H (noU_all rfl) (fun fr => by kernel_rfl) ?_
     intro fr H
     refine at_step (v := vs e_S_tree_Node x5.Nodes) (h1 := h11) [(9, .int .i64 x6), (10, .int .i64 x7), (52, vs e_S_tree_Node x5.Nodes)] H (fun fr => by kernel_rfl) (fun fr => .of (s_ld (by kernel_rfl) (A.ld1 2 rfl (o := 0) rfl))) ?_
     intro fr t H
     refine at_seg [(2, []), (3, []), (4, [])] [(9, .int .i64 x6), (10, .int .i64 x7), (55, .bool ((x5.Nodes.length : Int) == (0 : Int)))] H (noU_all rfl) (fun fr => by kernel_rfl) ?_
     intro fr H
     refine at_cut [(5, []), (6, []), (7, [])] (fun fr' h' => h11 = h' ∧ Has fr' 75 [(10, .int .i64 x7), (58, .bool (((x5.Nodes.length : Int) == (0 : Int)) && (x6 == (0 : Int))))]) ?_ ?_
     ·cases hb : ((x5.Nodes.length : Int) == (0 : Int) : Bool) with
      | true =>
       replace H := H.know 55 hb (by kernel_rfl)
       refine at_seg [(5, []), (6, []), (7, [])] [(10, .int .i64 x7), (58, .bool (x6 == (0 : Int)))] H (noU_all rfl) (fun fr => by kernel_rfl) ?_
       intro fr H
       exact at_nil ⟨rfl, by first | exact H.less _ (fun fr => by rfl) | exact H.less _ (fun fr => by rw [hb]; rfl)⟩
      | false =>
       replace H := H.know 55 hb (by kernel_rfl)
       refine at_seg [(5, []), (6, []), (7, [])] [(10, .int .i64 x7), (58, .bool false)] H (noU_all rfl) (fun fr => by kernel_rfl) ?_
       intro fr H
       exact at_nil ⟨rfl, by first | exact H.less _ (fun fr => by rfl) | exact H.less _ (fun fr => by rw [hb]; rfl)⟩
     ·intro t fr h' hK
      obtain ⟨e, H⟩ := hK
      subst e
      refine at_seg [(8, [])] [(10, .int .i64 x7), (59, .bool (((x5.Nodes.length : Int) == (0 : Int)) && (x6 == (0 : Int))))] H (noU_all rfl) (fun fr => by kernel_rfl) ?_
      intro fr H
      refine at_cut [(9, []), (10, []), (11, [])] (fun fr' h' => h11 = h' ∧ Has fr' 75 [(62, .bool ((((x5.Nodes.length : Int) == (0 : Int)) && (x6 == (0 : Int))) && (x7 == (8 : Int))))]) ?_ ?_
      ·cases hb : (((x5.Nodes.length : Int) == (0 : Int)) && (x6 == (0 : Int)) : Bool) with
       | true =>
        replace H := H.know 59 hb (by kernel_rfl)
        refine at_seg [(9, []), (10, []), (11, [])] [(62, .bool (x7 == (8 : Int)))] H (noU_all rfl) (fun fr => by kernel_rfl) ?_
        intro fr H
        exact at_nil ⟨rfl, by first | exact H.less _ (fun fr => by rfl) | exact H.less _ (fun fr => by rw [hb]; rfl)⟩
       | false =>
        replace H := H.know 59 hb (by kernel_rfl)
        refine at_seg [(9, []), (10, []), (11, [])] [(62, .bool false)] H (noU_all rfl) (fun fr => by kernel_rfl) ?_
        intro fr H
        exact at_nil ⟨rfl, by first | exact H.less _ (fun fr => by rfl) | exact H.less _ (fun fr => by rw [hb]; rfl)⟩
      ·intro t fr h' hK
       obtain ⟨e, H⟩ := hK
       subst e
       refine at_seg [(12, [])] [(63, .bool ((((x5.Nodes.length : Int) == (0 : Int)) && (x6 == (0 : Int))) && (x7 == (8 : Int))))] H (noU_all rfl) (fun fr => by kernel_rfl) ?_
       intro fr H
       obtain ⟨x11, ho, hm⟩ := bind_some hm
       refine at_cut [(13, []), (14, [])] (fun fr' h' => Has fr' 75 [(65, .bool x11)] ∧ HH g h' [.obj h9.size (.cells none 2 [vs e_S_tree_Node x8.Nodes, .int .i64 x8.Root]), .obj h5.size (.cells none 2 [vs e_S_tree_Node x5.Nodes, .int .i64 x5.Root])] F) ?_ ?_
       ·rcases iteB_some ho with ⟨hb, hm⟩ | ⟨hb, hm⟩
        ·replace H := H.know 63 hb (by kernel_rfl)
         have A1 := A.cut 0
         obtain ⟨x12, hx, hm⟩ := bind_some hm
         obtain ⟨v1, h13, hr, rfl, A1⟩ := ok_boulterlaw19_awake (av := []) hx (by kernel_rfl) A1
         replace A : HH g h13 [.obj h9.size (.cells none 2 [vs e_S_tree_Node x8.Nodes, .int .i64 x8.Root]), .lst (some h7.size) 5 (lst eY (List.replicate (8193 : Int).toNat (0 : UInt8))), .obj h5.size (.cells none 2 [vs e_S_tree_Node x5.Nodes, .int .i64 x5.Root]), .lst (some h.size) 5 (lst eY x3)] F := A.glue0 (n := 0) A1
         refine at_step (v := .bool x12) (h1 := h13) [(63, .bool true), (64, .bool x12)] H (fun fr => by kernel_rfl) (fun fr => Steps.call (by kernel_rfl) hr) ?_
         intro fr t H
         refine at_seg [(14, [])] [(65, .bool x12)] H (noU_all rfl) (fun fr => by kernel_rfl) ?_
         intro fr H
         have e1 := Option.some.inj hm
         subst e1
         replace A : HH g h13 [.obj h9.size (.cells none 2 [vs e_S_tree_Node x8.Nodes, .int .i64 x8.Root]), .obj h5.size (.cells none 2 [vs e_S_tree_Node x5.Nodes, .int .i64 x5.Root])] F := (HH.dropF ((A.front 2 rfl).front 1 rfl) 2)
         exact at_nil ⟨H.less _ (fun fr => by kernel_rfl), A⟩
        ·replace H := H.know 63 hb (by kernel_rfl)
         refine at_seg [(13, []), (14, [])] [(65, .bool false)] H (noU_all rfl) (fun fr => by kernel_rfl) ?_
         intro fr H
         have e1 := Option.some.inj hm
         subst e1
         replace A : HH g h11 [.obj h9.size (.cells none 2 [vs e_S_tree_Node x8.Nodes, .int .i64 x8.Root]), .obj h5.size (.cells none 2 [vs e_S_tree_Node x5.Nodes, .int .i64 x5.Root])] F := (HH.dropF ((A.front 2 rfl).front 1 rfl) 2)
         exact at_nil ⟨H.less _ (fun fr => by kernel_rfl), A⟩
       ·clear A
        intro t fr h12 hK
        obtain ⟨H, A⟩ := hK
        refine at_seg [(15, [])] [(4, .bool x11)] H (noU_all rfl) (fun fr => by kernel_rfl) ?_
        intro fr H
        refine at_nil ?_
        show AW cfg 3 g (right (left (right (left (right (right (right (right (right (right (right (bodyC cfg.P 3)))))))))))) fr h12 _
        refine aw_ret (by kernel_rfl) ?_
        have e1 := Option.some.inj hm
        subst e1
        refine ⟨.inl rfl, .bool x11, resH H (fun fr => by kernel_rfl), ?_⟩
        replace A : HH g h12 [] F := (HH.dropF A 0)
        exact ⟨rfl, A⟩
    ·replace H := H.know 50 hb (by kernel_rfl)
     refine aw_false (x := .tmp 50) (by kernel_rfl) H (fun fr => by kernel_rfl) ?_
     refine aw_skip (by kernel_rfl) ?_
     show AW cfg 3 g (right (right (right (right (right (right (right (right (bodyC cfg.P 3))))))))) fr h11 _
     refine aw_seq (by kernel_rfl) ?_
     refine aw_reg (id := 14) (n := 10) [(0, []), (1, []), (2, []), (3, []), (4, []), (5, []), (6, []), (7, []), (8, []), (9, [])] (by kernel_rfl) (by kernel_rfl) ?_
     refine at_seg [(0, []), (1, []), (2, [])] [(8, .ptr (some (h5.size, 0))), (68, .bool (x7 == (0 : Int)))] H (noU_all rfl) (fun fr => by kernel_rfl) ?_
     intro fr H
     obtain ⟨x13, ho, hm⟩ := bind_some hm
     refine at_cut [(3, []), (4, []), (5, [])] (fun fr' h' => Has fr' 75 [(71, .bool x13)] ∧ HH g h' [.obj h9.size (.cells none 2 [vs e_S_tree_Node x8.Nodes, .int .i64 x8.Root]), .obj h5.size (.cells none 2 [vs e_S_tree_Node x5.Nodes, .int .i64 x5.Root])] F) ?_ ?_
     ·rcases iteB_some ho with ⟨hb, hm⟩ | ⟨hb, hm⟩
      ·replace H := H.know 68 hb (by kernel_rfl)
       refine at_step (v := .agg [vs e_S_tree_Node x5.Nodes, .int .i64 x5.Root]) (h1 := h11) [(68, .bool true), (69, .agg [vs e_S_tree_Node x5.Nodes, .int .i64 x5.Root])] H (fun fr => by kernel_rfl) (fun fr => .of (s_ldA (by kernel_rfl) (A.ldA 2 rfl (o := 0) (n := 2) ⟨Nat.le_of_ble_eq_true rfl, rfl⟩))) ?_
       intro fr t H
       have A1 := A.cut 0
       obtain ⟨x14, hx, hm⟩ := bind_some hm
       obtain ⟨v1, h15, hr, rfl, A1⟩ := ok_tree_Tree_Right (av := [.agg [vs e_S_tree_Node x5.Nodes, .int .i64 x5.Root]]) hx (by kernel_rfl) A1
       replace A : HH g h15 [.obj h9.size (.cells none 2 [vs e_S_tree_Node x8.Nodes, .int .i64 x8.Root]), .lst (some h7.size) 5 (lst eY (List.replicate (8193 : Int).toNat (0 : UInt8))), .obj h5.size (.cells none 2 [vs e_S_tree_Node x5.Nodes, .int .i64 x5.Root]), .lst (some h.size) 5 (lst eY x3)] F := A.glue0 (n := 0) A1
       refine at_step (v := .bool x14) (h1 := h15) [(68, .bool true), (70, .bool x14)] H (fun fr => by kernel_rfl) (fun fr => Steps.call (by kernel_rfl) hr) ?_
       intro fr t H
       refine at_seg [(5, [])] [(71, .bool x14)] H (noU_all rfl) (fun fr => by kernel_rfl) ?_
       intro fr H
       have e1 := Option.some.inj hm
       subst e1
       replace A : HH g h15 [.obj h9.size (.cells none 2 [vs e_S_tree_Node x8.Nodes, .int .i64 x8.Root]), .obj h5.size (.cells none 2 [vs e_S_tree_Node x5.Nodes, .int .i64 x5.Root])] F := (HH.dropF ((A.front 2 rfl).front 1 rfl) 2)
       exact at_nil ⟨H.less _ (fun fr => by kernel_rfl), A⟩
      ·replace H := H.know 68 hb (by kernel_rfl)
       refine at_seg [(3, []), (4, []), (5, [])] [(71, .bool false)] H (noU_all rfl) (fun fr => by kernel_rfl) ?_
       intro fr H
       have e1 := Option.some.inj hm
       subst e1
       replace A : HH g h11 [.obj h9.size (.cells none 2 [vs e_S_tree_Node x8.Nodes, .int .i64 x8.Root]), .obj h5.size (.cells none 2 [vs e_S_tree_Node x5.Nodes, .int .i64 x5.Root])] F := (HH.dropF ((A.front 2 rfl).front 1 rfl) 2)
       exact at_nil ⟨H.less _ (fun fr => by kernel_rfl), A⟩
     ·clear A
      intro t fr h14 hK
      obtain ⟨H, A⟩ := hK
      refine at_seg [(6, [])] [(72, .bool x13)] H (noU_all rfl) (fun fr => by kernel_rfl) ?_
      intro fr H
      obtain ⟨x15, ho, hm⟩ := bind_some hm
      refine at_cut [(7, []), (8, [])] (fun fr' h' => Has fr' 75 [(74, .bool x15)] ∧ HH g h' [.obj h9.size (.cells none 2 [vs e_S_tree_Node x8.Nodes, .int .i64 x8.Root]), .obj h5.size (.cells none 2 [vs e_S_tree_Node x5.Nodes, .int .i64 x5.Root])] F) ?_ ?_
      ·rcases iteB_some ho with ⟨hb, hm⟩ | ⟨hb, hm⟩
       ·replace H := H.know 72 hb (by kernel_rfl)
        have A1 := A.cut 0
        obtain ⟨x16, hx, hm⟩ := bind_some hm
        obtain ⟨v1, h17, hr, rfl, A1⟩ := ok_boulterlaw19_awake (av := []) hx (by kernel_rfl) A1
        replace A : HH g h17 [.obj h9.size (.cells none 2 [vs e_S_tree_Node x8.Nodes, .int .i64 x8.Root]), .obj h5.size (.cells none 2 [vs e_S_tree_Node x5.Nodes, .int .i64 x5.Root])] F := A.glue0 (n := 0) A1
        refine at_step (v := .bool x16) (h1 := h17) [(72, .bool true), (73, .bool x16)] H (fun fr => by kernel_rfl) (fun fr => Steps.call (by kernel_rfl) hr) ?_
        intro fr t H
        refine at_seg [(8, [])] [(74, .bool x16)] H (noU_all rfl) (fun fr => by kernel_rfl) ?_
        intro fr H
        have e1 := Option.some.inj hm
        subst e1
        exact at_nil ⟨H.less _ (fun fr => by kernel_rfl), A⟩
       ·replace H := H.know 72 hb (by kernel_rfl)
        refine at_seg [(7, []), (8, [])] [(74, .bool false)] H (noU_all rfl) (fun fr => by kernel_rfl) ?_
        intro fr H
        have e1 := Option.some.inj hm
        subst e1
        exact at_nil ⟨H.less _ (fun fr => by kernel_rfl), A⟩
      ·clear A
       intro t fr h16 hK
       obtain ⟨H, A⟩ := hK
       refine at_seg [(9, [])] [(4, .bool x15)] H (noU_all rfl) (fun fr => by kernel_rfl) ?_
       intro fr H
       refine at_nil ?_
       show AW cfg 3 g (right (right (right (right (right (right (right (right (right (bodyC cfg.P 3)))))))))) fr h16 _
       refine aw_ret (by kernel_rfl) ?_
       have e1 := Option.some.inj hm
       subst e1
       refine ⟨.inl rfl, .bool x15, resH H (fun fr => by kernel_rfl), ?_⟩
       replace A : HH g h16 [] F := (HH.dropF A 0)
       exact ⟨rfl, A⟩
  ·exact hF.elim
end Go.Av.L
