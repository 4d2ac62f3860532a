/-
 Models of functions, and that the abstract run tells them. Written by lift2.py.
-/
import Derived.Test.YtiodcbipjnmpgaaDoorKCfg
import Derived.Test.YtiodcbipjnmpgaaDoorK0
namespace Go.Av.L
open Go.Av Go.Lib
set_option maxRecDepth 10000
set_option linter.unusedVariables false
set_option linter.unusedSimpArgs false
/-! ### boulter/tree.may -/
noncomputable def M_tree_may (p0 : S_tree_Node) (p1 : Int) : Option (Bool) :=
 (M_tree_bare p0).bind fun (x1, x2) => (iteB (!x2) (some true) ((eqG cfg.P 45 [.int .i64 x1.Kind, .int .i64 x1.A, .int .i64 x1.B, .int .i64 x1.Min, .int .i64 x1.Max, .int .i64 x1.Group, .int .u64 x1.Set.w0, .int .u64 x1.Set.w1, .int .u64 x1.Set.w2, .int .u64 x1.Set.w3] [.int .i64 p0.Kind, .int .i64 p0.A, .int .i64 p0.B, .int .i64 p0.Min, .int .i64 p0.Max, .int .i64 p0.Group, .int .u64 p0.Set.w0, .int .u64 p0.Set.w1, .int .u64 p0.Set.w2, .int .u64 p0.Set.w3]).bind fun x4 => some (!x4)) : Option (Bool)).bind fun x3 => iteB x3 (some false) ((iteB (p0.Kind == (2 : Int)) (some true) (some (p0.Kind == (3 : Int))) : Option ((Bool))).bind fun x5 => iteB x5 ((M_tree_may_1_sIP p0.A p1).bind fun x6 => (iteB x6 ((M_tree_may_1_sIP p0.B p1).bind fun x8 => some x8) (some false) : Option (Bool)).bind fun x7 => some x7) (iteB (p0.Kind == (4 : Int)) ((M_tree_may_1_sIP p0.A p1).bind fun x9 => some (((x9 && (decide (p0.Min ≥ (0 : Int)))) && (decide (p0.Min ≤ (255 : Int)))) && ((p0.Max == (-1 : Int)) || ((decide (p0.Max ≥ p0.Min)) && (decide (p0.Max ≤ (255 : Int))))))) (iteB (p0.Kind == (5 : Int)) ((M_tree_may_1_sIP p0.A p1).bind fun x10 => some ((x10 && (decide (p0.Group ≥ (1 : Int)))) && (decide (p0.Group ≤ (1024 : Int))))) (some true))))
theorem ok_tree_may {g : Gd} {h : AHeap} {F : List Ck} {p0 : S_tree_Node} {p1 : Int} {q0 : Bool} {av : List AVal} (hm : M_tree_may p0 p1 = some q0) (hc : canL (cfg.still 16) av = [.agg (e_S_tree_Node p0), .int .i64 p1]) (A : HH g h [] F) : ∃ v h', Runs cfg g h 16 av v h' ∧ v = .bool q0 ∧ HH g h' [] F := by
 refine runsQ1 (n := 85) (rs := [.tmp 4]) (by kernel_rfl) hc (by kernel_rfl) ?_
 clear hc
 unfold M_tree_may at hm
 refine start (n := 85) [(0, .agg (e_S_tree_Node p0)), (1, .int .i64 p1)] (by kernel_rfl) (by kernel_rfl) ?_
 intro fr H
 refine aw_seq (by kernel_rfl) ?_
 refine aw_reg (id := 0) (n := 3) [(0, []), (1, []), (2, [])] (by kernel_rfl) (by kernel_rfl) ?_
 obtain ⟨h1, e1⟩ : ∃ x, x = h.push (.cells none 2 (e_S_tree_Node p0)) := ⟨_, rfl⟩
 replace A := (A.push _).to e1
 refine at_step (v := .ptr (some (h.size, 0))) (h1 := h1) [(1, .int .i64 p1), (2, .ptr (some (h.size, 0)))] H (fun fr => by kernel_rfl) (fun fr => .of (s_n' (by kernel_rfl) (congrArg some e1.symm))) ?_
 intro fr t H
 obtain ⟨h2, e2⟩ : ∃ x, x = h1.push (.cells none 2 [.int .i64 p1]) := ⟨_, rfl⟩
 replace A := (A.push _).to e2
 refine at_step (v := .ptr (some (h1.size, 0))) (h1 := h2) [(2, .ptr (some (h.size, 0))), (3, .ptr (some (h1.size, 0)))] H (fun fr => by kernel_rfl) (fun fr => .of (s_n' (by kernel_rfl) (congrArg some e2.symm))) ?_
 intro fr t H
 refine at_seg [(2, [])] [(2, .ptr (some (h.size, 0))), (3, .ptr (some (h1.size, 0)))] H (noU_all rfl) (fun fr => by kernel_rfl) ?_
 intro fr H
 refine at_nil ?_
 show AW cfg 16 g (right (bodyC cfg.P 16)) fr h2 _
 refine aw_seq (by kernel_rfl) ?_
 refine aw_seq (by kernel_rfl) ?_
 refine aw_reg (id := 1) (n := 8) [(0, []), (1, []), (2, []), (3, []), (4, []), (5, []), (6, []), (7, [])] (by kernel_rfl) (by kernel_rfl) ?_
 refine at_step (v := .agg (e_S_tree_Node p0)) (h1 := h2) [(2, .ptr (some (h.size, 0))), (3, .ptr (some (h1.size, 0))), (9, .agg (e_S_tree_Node p0))] H (fun fr => by kernel_rfl) (fun fr => .of (s_ldA (by kernel_rfl) (A.ldA 1 rfl (o := 0) (n := 10) ⟨Nat.le_of_ble_eq_true rfl, rfl⟩))) ?_
 intro fr t H
 have A1 := A.cut 0
 obtain ⟨⟨x1, x2⟩, hx, hm⟩ := bind_some hm
 obtain ⟨v1, h3, hr, rfl, A1⟩ := ok_tree_bare (av := [.agg (e_S_tree_Node p0)]) hx (by kernel_rfl) A1
 replace A : HH g h3 [.obj h1.size (.cells none 2 [.int .i64 p1]), .obj h.size (.cells none 2 (e_S_tree_Node p0))] F := A.glue0 (n := 0) A1
 refine at_step (v := .tuple [.agg (e_S_tree_Node x1), .bool x2]) (h1 := h3) [(2, .ptr (some (h.size, 0))), (3, .ptr (some (h1.size, 0))), (10, .tuple [.agg (e_S_tree_Node x1), .bool x2])] H (fun fr => by kernel_rfl) (fun fr => Steps.call (by kernel_rfl) hr) ?_
 intro fr t H
 refine at_seg [(2, []), (3, []), (4, [])] [(2, .ptr (some (h.size, 0))), (3, .ptr (some (h1.size, 0))), (11, .agg (e_S_tree_Node x1)), (12, .bool x2)] H (noU_all rfl) (fun fr => by kernel_rfl) ?_
 intro fr H
 obtain ⟨h4, e3⟩ : ∃ x, x = h3.push (.cells none 2 [.int .i64 (0 : Int), .int .i64 (0 : Int), .int .i64 (0 : Int), .int .i64 (0 : Int), .int .i64 (0 : Int), .int .i64 (0 : Int), .int .u64 (0 : Int), .int .u64 (0 : Int), .int .u64 (0 : Int), .int .u64 (0 : Int)]) := ⟨_, rfl⟩
 replace A := (A.push _).to e3
 refine at_step (v := .ptr (some (h3.size, 0))) (h1 := h4) [(2, .ptr (some (h.size, 0))), (3, .ptr (some (h1.size, 0))), (5, .ptr (some (h3.size, 0))), (11, .agg (e_S_tree_Node x1)), (12, .bool x2)] H (fun fr => by kernel_rfl) (fun fr => .of (s_n' (by kernel_rfl) (congrArg some e3.symm))) ?_
 intro fr t H
 obtain ⟨h5, hx, A1⟩ := A.st 0 rfl (o := 0) (new := [.int .i64 x1.Kind, .int .i64 x1.A, .int .i64 x1.B, .int .i64 x1.Min, .int .i64 x1.Max, .int .i64 x1.Group, .int .u64 x1.Set.w0, .int .u64 x1.Set.w1, .int .u64 x1.Set.w2, .int .u64 x1.Set.w3]) (ds := [.int .i64 x1.Kind, .int .i64 x1.A, .int .i64 x1.B, .int .i64 x1.Min, .int .i64 x1.Max, .int .i64 x1.Group, .int .u64 x1.Set.w0, .int .u64 x1.Set.w1, .int .u64 x1.Set.w2, .int .u64 x1.Set.w3]) (Nat.le_of_ble_eq_true rfl) rfl rfl
 replace A : HH g h5 [.obj h3.size (.cells none 2 (e_S_tree_Node x1)), .obj h1.size (.cells none 2 [.int .i64 p1]), .obj h.size (.cells none 2 (e_S_tree_Node p0))] F := A1
 refine at_step (v := .tuple []) (h1 := h5) [(2, .ptr (some (h.size, 0))), (3, .ptr (some (h1.size, 0))), (5, .ptr (some (h3.size, 0))), (12, .bool x2)] H (fun fr => by kernel_rfl) (fun fr => .of (s_stG (by kernel_rfl) (stG_st hx rfl))) ?_
 intro fr t H
 refine at_seg [(7, [])] [(2, .ptr (some (h.size, 0))), (3, .ptr (some (h1.size, 0))), (5, .ptr (some (h3.size, 0))), (6, .bool x2)] H (noU_all rfl) (fun fr => by kernel_rfl) ?_
 intro fr H
 refine at_nil ?_
 show AW cfg 16 g (right (left (right (bodyC cfg.P 16)))) fr h5 _
 refine aw_seq (by kernel_rfl) ?_
 refine aw_reg (id := 2) (n := 7) [(0, []), (1, []), (2, []), (3, []), (4, []), (5, []), (6, [])] (by kernel_rfl) (by kernel_rfl) ?_
 refine at_seg [(0, []), (1, []), (2, [])] [(2, .ptr (some (h.size, 0))), (3, .ptr (some (h1.size, 0))), (5, .ptr (some (h3.size, 0))), (15, .bool (!x2))] H (noU_all rfl) (fun fr => by kernel_rfl) ?_
 intro fr H
 obtain ⟨x3, ho, hm⟩ := bind_some hm
 refine at_cut [(3, []), (4, []), (5, []), (6, [])] (fun fr' h' => Has fr' 85 [(2, .ptr (some (h.size, 0))), (3, .ptr (some (h1.size, 0))), (19, .bool x3)] ∧ HH g h' [.obj h3.size (.cells none 2 (e_S_tree_Node x1)), .obj h1.size (.cells none 2 [.int .i64 p1]), .obj h.size (.cells none 2 (e_S_tree_Node p0))] F) ?_ ?_
 ·rcases iteB_some ho with ⟨hb, hm⟩ | ⟨hb, hm⟩
  ·replace H := H.know 15 hb (by kernel_rfl)
   refine at_seg [(3, []), (4, []), (5, []), (6, [])] [(2, .ptr (some (h.size, 0))), (3, .ptr (some (h1.size, 0))), (19, .bool true)] H (noU_all rfl) (fun fr => by kernel_rfl) ?_
   intro fr H
   have e1 := Option.some.inj hm
   subst e1
   exact at_nil ⟨H.less _ (fun fr => by kernel_rfl), A⟩
  ·replace H := H.know 15 hb (by kernel_rfl)
   refine at_step (v := .agg (e_S_tree_Node x1)) (h1 := h5) [(2, .ptr (some (h.size, 0))), (3, .ptr (some (h1.size, 0))), (15, .bool false), (16, .agg (e_S_tree_Node x1))] H (fun fr => by kernel_rfl) (fun fr => .of (s_ldA (by kernel_rfl) (A.ldA 0 rfl (o := 0) (n := 10) ⟨Nat.le_of_ble_eq_true rfl, rfl⟩))) ?_
   intro fr t H
   refine at_step (v := .agg (e_S_tree_Node p0)) (h1 := h5) [(2, .ptr (some (h.size, 0))), (3, .ptr (some (h1.size, 0))), (15, .bool false), (16, .agg (e_S_tree_Node x1)), (17, .agg (e_S_tree_Node p0))] H (fun fr => by kernel_rfl) (fun fr => .of (s_ldA (by kernel_rfl) (A.ldA 2 rfl (o := 0) (n := 10) ⟨Nat.le_of_ble_eq_true rfl, rfl⟩))) ?_
   intro fr t H
   obtain ⟨x4, hx, hm⟩ := bind_some hm
   refine at_step (v := .bool (!x4)) (h1 := h5) [(2, .ptr (some (h.size, 0))), (3, .ptr (some (h1.size, 0))), (15, .bool false), (18, .bool (!x4))] H (fun fr => by kernel_rfl) (fun fr => .of (s_neG (by kernel_rfl) hx)) ?_
   intro fr t H
   refine at_seg [(6, [])] [(2, .ptr (some (h.size, 0))), (3, .ptr (some (h1.size, 0))), (19, .bool (!x4))] H (noU_all rfl) (fun fr => by kernel_rfl) ?_
   intro fr H
   have e1 := Option.some.inj hm
   subst e1
   exact at_nil ⟨H.less _ (fun fr => by kernel_rfl), A⟩
 ·clear A
  intro t fr h6 hK
  obtain ⟨H, A⟩ := hK
  refine at_nil ?_
  show AW cfg 16 g (right (right (left (right (bodyC cfg.P 16))))) fr h6 _
  rcases iteB_some hm with ⟨hb, hm⟩ | ⟨hb, hm⟩
  ·replace H := H.know 19 hb (by kernel_rfl)
   refine aw_true (x := .tmp 19) (by kernel_rfl) H (fun fr => by kernel_rfl) ?_
   refine aw_seq (by kernel_rfl) ?_
   refine aw_reg (id := 3) (n := 1) [(0, [])] (by kernel_rfl) (by kernel_rfl) ?_
   refine at_seg [(0, [])] [(4, .bool false)] H (noU_all rfl) (fun fr => by kernel_rfl) ?_
   intro fr H
   refine at_nil ?_
   show AW cfg 16 g (right (left (right (right (left (right (bodyC cfg.P 16))))))) fr h6 _
   refine aw_ret (by kernel_rfl) ?_
   have e1 := Option.some.inj hm
   subst e1
   refine ⟨.inl rfl, .bool false, resH H (fun fr => by kernel_rfl), ?_⟩
   replace A : HH g h6 [] F := (HH.dropF A 0)
   exact ⟨rfl, A⟩
  ·replace H := H.know 19 hb (by kernel_rfl)
   refine aw_false (x := .tmp 19) (by kernel_rfl) H (fun fr => by kernel_rfl) ?_
   refine aw_skip (by kernel_rfl) ?_
   show AW cfg 16 g (right (right (bodyC cfg.P 16))) fr h6 _
   refine aw_seq (by kernel_rfl) ?_
   refine aw_reg (id := 4) (n := 2) [(0, []), (1, [])] (by kernel_rfl) (by kernel_rfl) ?_
   refine at_seg [(0, []), (1, [])] [(2, .ptr (some (h.size, 0))), (7, .func (.func 25) [] [.ptr (some (h1.size, 0))])] H (noU_all rfl) (fun fr => by kernel_rfl) ?_
   intro fr H
   refine at_nil ?_
   show AW cfg 16 g (right (right (right (bodyC cfg.P 16)))) fr h6 _
   refine aw_seq (by kernel_rfl) ?_
   refine aw_seq (by kernel_rfl) ?_
   refine aw_reg (id := 5) (n := 2) [(0, []), (1, [])] (by kernel_rfl) (by kernel_rfl) ?_
   refine at_seg [(0, [])] [(2, .ptr (some (h.size, 0))), (7, .func (.func 25) [] [.ptr (some (h1.size, 0))]), (21, .ptr (some (h.size, 0)))] H (noU_all rfl) (fun fr => by kernel_rfl) ?_
   intro fr H
   refine at_step (v := .int .i64 p0.Kind) (h1 := h6) [(2, .ptr (some (h.size, 0))), (7, .func (.func 25) [] [.ptr (some (h1.size, 0))]), (22, .int .i64 p0.Kind)] H (fun fr => by kernel_rfl) (fun fr => .of (s_ld (by kernel_rfl) (A.ld1 2 rfl (o := 0) rfl))) ?_
   intro fr t H
   refine at_nil ?_
   show AW cfg 16 g (right (left (right (right (right (bodyC cfg.P 16)))))) fr h6 _
   refine aw_block (id := 0) (by kernel_rfl) ?_
   refine aw_seq (by kernel_rfl) ?_
   obtain ⟨o1, ho, hm⟩ := bind_some hm
   refine aw_mono (Q' := fun e fr' h' => (∃ (x5 : Bool), e = .normal ∧ x5 = o1 ∧ Has fr' 85 [(2, .ptr (some (h.size, 0))), (7, .func (.func 25) [] [.ptr (some (h1.size, 0))]), (22, .int .i64 p0.Kind), (23, .bool x5)] ∧ HH g h' [.obj h3.size (.cells none 2 (e_S_tree_Node x1)), .obj h1.size (.cells none 2 [.int .i64 p1]), .obj h.size (.cells none 2 (e_S_tree_Node p0))] F) ∨ False) ?_ ?_
   ·replace hm := ho
    clear ho
    refine aw_seq (by kernel_rfl) ?_
    refine aw_reg (id := 6) (n := 2) [(0, []), (1, [])] (by kernel_rfl) (by kernel_rfl) ?_
    refine at_seg [(0, []), (1, [])] [(2, .ptr (some (h.size, 0))), (7, .func (.func 25) [] [.ptr (some (h1.size, 0))]), (22, .int .i64 p0.Kind), (23, .bool (p0.Kind == (2 : Int)))] H (noU_all rfl) (fun fr => by kernel_rfl) ?_
    intro fr H
    refine at_nil ?_
    show AW cfg 16 g (right (left (left (right (left (right (right (right (bodyC cfg.P 16))))))))) fr h6 _
    rcases iteB_some hm with ⟨hb, hm⟩ | ⟨hb, hm⟩
    ·replace H := H.know 23 hb (by kernel_rfl)
     refine aw_true (x := .tmp 23) (by kernel_rfl) H (fun fr => by kernel_rfl) ?_
     refine aw_skip (by kernel_rfl) ?_
     exact Or.inl ⟨true, rfl, Option.some.inj hm, H.less _ (fun fr => by kernel_rfl), A⟩
    ·replace H := H.know 23 hb (by kernel_rfl)
     refine aw_false (x := .tmp 23) (by kernel_rfl) H (fun fr => by kernel_rfl) ?_
     refine aw_reg (id := 7) (n := 2) [(0, []), (1, [])] (by kernel_rfl) (by kernel_rfl) ?_
     refine at_seg [(0, []), (1, [])] [(2, .ptr (some (h.size, 0))), (7, .func (.func 25) [] [.ptr (some (h1.size, 0))]), (22, .int .i64 p0.Kind), (23, .bool (p0.Kind == (3 : Int)))] H (noU_all rfl) (fun fr => by kernel_rfl) ?_
     intro fr H
     refine at_nil ?_
     exact Or.inl ⟨p0.Kind == (3 : Int), rfl, Option.some.inj hm, H.less _ (fun fr => by kernel_rfl), A⟩
   ·clear ho
    clear A
    intro e fr h7 hQ
    rcases hQ with ⟨x5, rfl, rfl, H, A⟩ | hF
    ·skip
     show AW cfg 16 g (right (left (right (left (right (right (right (bodyC cfg.P 16)))))))) fr h7 _
     rcases iteB_some hm with ⟨hb, hm⟩ | ⟨hb, hm⟩
     ·replace H := H.know 23 hb (by kernel_rfl)
      refine aw_true (x := .tmp 23) (by kernel_rfl) H (fun fr => by kernel_rfl) ?_
      refine aw_seq (by kernel_rfl) ?_
      refine aw_reg (id := 8) (n := 11) [(0, []), (1, []), (2, []), (3, []), (4, []), (5, []), (6, []), (7, []), (8, []), (9, []), (10, [])] (by kernel_rfl) (by kernel_rfl) ?_
      refine at_seg [(0, []), (1, [])] [(2, .ptr (some (h.size, 0))), (7, .func (.func 25) [] [.ptr (some (h1.size, 0))]), (26, .func (.func 25) [] [.ptr (some (h1.size, 0))]), (27, .ptr (some (h.size, 1)))] H (noU_all rfl) (fun fr => by kernel_rfl) ?_
      intro fr H
      refine at_step (v := .int .i64 p0.A) (h1 := h7) [(2, .ptr (some (h.size, 0))), (7, .func (.func 25) [] [.ptr (some (h1.size, 0))]), (26, .func (.func 25) [] [.ptr (some (h1.size, 0))]), (28, .int .i64 p0.A)] H (fun fr => by kernel_rfl) (fun fr => .of (s_ld (by kernel_rfl) (A.ld1 2 rfl (o := 1) rfl))) ?_
      intro fr t H
      replace A : HH g h7 [.obj h1.size (.cells none 2 [.int .i64 p1]), .obj h3.size (.cells none 2 (e_S_tree_Node x1)), .obj h.size (.cells none 2 (e_S_tree_Node p0))] F := (A.front 1 rfl)
      have A1 := A.cut 1
      obtain ⟨x6, hx, hm⟩ := bind_some hm
      obtain ⟨v1, h8, hr, rfl, A1⟩ := ok_tree_may_1_sIP (av := [.int .i64 p0.A, .ptr (some (h1.size, 0))]) hx (by kernel_rfl) A1
      replace A : HH g h8 [.obj h1.size (.cells none 2 [.int .i64 p1]), .obj h3.size (.cells none 2 (e_S_tree_Node x1)), .obj h.size (.cells none 2 (e_S_tree_Node p0))] F := A.glue0 (n := 1) A1
      refine at_step (v := .bool x6) (h1 := h8) [(2, .ptr (some (h.size, 0))), (7, .func (.func 25) [] [.ptr (some (h1.size, 0))]), (29, .bool x6)] H (fun fr => by kernel_rfl) (fun fr => Steps.call (by kernel_rfl) hr) ?_
      intro fr t H
      refine at_seg [(4, [])] [(2, .ptr (some (h.size, 0))), (7, .func (.func 25) [] [.ptr (some (h1.size, 0))]), (30, .bool x6)] H (noU_all rfl) (fun fr => by kernel_rfl) ?_
      intro fr H
      obtain ⟨x7, ho, hm⟩ := bind_some hm
      refine at_cut [(5, []), (6, []), (7, []), (8, []), (9, [])] (fun fr' h' => Has fr' 85 [(35, .bool x7)] ∧ HH g h' [.obj h1.size (.cells none 2 [.int .i64 p1]), .obj h3.size (.cells none 2 (e_S_tree_Node x1)), .obj h.size (.cells none 2 (e_S_tree_Node p0))] F) ?_ ?_
      ·rcases iteB_some ho with ⟨hb, hm⟩ | ⟨hb, hm⟩
       ·replace H := H.know 30 hb (by kernel_rfl)
        refine at_seg [(5, []), (6, [])] [(30, .bool true), (31, .func (.func 25) [] [.ptr (some (h1.size, 0))]), (32, .ptr (some (h.size, 2)))] H (noU_all rfl) (fun fr => by kernel_rfl) ?_
        intro fr H
        refine at_step (v := .int .i64 p0.B) (h1 := h8) [(30, .bool true), (31, .func (.func 25) [] [.ptr (some (h1.size, 0))]), (33, .int .i64 p0.B)] H (fun fr => by kernel_rfl) (fun fr => .of (s_ld (by kernel_rfl) (A.ld1 2 rfl (o := 2) rfl))) ?_
        intro fr t H
        have A1 := A.cut 1
        obtain ⟨x8, hx, hm⟩ := bind_some hm
        obtain ⟨v1, h10, hr, rfl, A1⟩ := ok_tree_may_1_sIP (av := [.int .i64 p0.B, .ptr (some (h1.size, 0))]) hx (by kernel_rfl) A1
        replace A : HH g h10 [.obj h1.size (.cells none 2 [.int .i64 p1]), .obj h3.size (.cells none 2 (e_S_tree_Node x1)), .obj h.size (.cells none 2 (e_S_tree_Node p0))] F := A.glue0 (n := 1) A1
        refine at_step (v := .bool x8) (h1 := h10) [(30, .bool true), (34, .bool x8)] H (fun fr => by kernel_rfl) (fun fr => Steps.call (by kernel_rfl) hr) ?_
        intro fr t H
        refine at_seg [(9, [])] [(35, .bool x8)] H (noU_all rfl) (fun fr => by kernel_rfl) ?_
        intro fr H
        have e1 := Option.some.inj hm
        subst e1
        exact at_nil ⟨H.less _ (fun fr => by kernel_rfl), A⟩
       ·replace H := H.know 30 hb (by kernel_rfl)
        refine at_seg [(5, []), (6, []), (7, []), (8, []), (9, [])] [(35, .bool false)] H (noU_all rfl) (fun fr => by kernel_rfl) ?_
        intro fr H
        have e1 := Option.some.inj hm
        subst e1
        exact at_nil ⟨H.less _ (fun fr => by kernel_rfl), A⟩
      ·clear A
       intro t fr h9 hK
       obtain ⟨H, A⟩ := hK
       refine at_seg [(10, [])] [(4, .bool x7)] H (noU_all rfl) (fun fr => by kernel_rfl) ?_
       intro fr H
       refine at_nil ?_
       show AW cfg 16 g (right (left (right (left (right (left (right (right (right (bodyC cfg.P 16)))))))))) fr h9 _
       refine aw_ret (by kernel_rfl) ?_
       have e1 := Option.some.inj hm
       subst e1
       refine ⟨.inl rfl, .bool x7, resH H (fun fr => by kernel_rfl), ?_⟩
       replace A : HH g h9 [] F := (HH.dropF A 0)
       exact ⟨rfl, A⟩
     ·replace H := H.know 23 hb (by kernel_rfl)
      refine aw_false (x := .tmp 23) (by kernel_rfl) H (fun fr => by kernel_rfl) ?_
      refine aw_seq (by kernel_rfl) ?_
      refine aw_reg (id := 9) (n := 2) [(0, []), (1, [])] (by kernel_rfl) (by kernel_rfl) ?_
      refine at_seg [(0, []), (1, [])] [(2, .ptr (some (h.size, 0))), (7, .func (.func 25) [] [.ptr (some (h1.size, 0))]), (22, .int .i64 p0.Kind), (36, .bool (p0.Kind == (4 : Int)))] H (noU_all rfl) (fun fr => by kernel_rfl) ?_
      intro fr H
      refine at_nil ?_
      show AW cfg 16 g (right (right (right (left (right (left (right (right (right (bodyC cfg.P 16)))))))))) fr h7 _
      rcases iteB_some hm with ⟨hb, hm⟩ | ⟨hb, hm⟩
      ·replace H := H.know 36 hb (by kernel_rfl)
       refine aw_true (x := .tmp 36) (by kernel_rfl) H (fun fr => by kernel_rfl) ?_
       refine aw_seq (by kernel_rfl) ?_
       refine aw_reg (id := 10) (n := 32) [(0, []), (1, []), (2, []), (3, []), (4, []), (5, []), (6, []), (7, []), (8, []), (9, []), (10, []), (11, []), (12, []), (13, []), (14, []), (15, []), (16, []), (17, []), (18, []), (19, []), (20, []), (21, []), (22, []), (23, []), (24, []), (25, []), (26, []), (27, []), (28, []), (29, []), (30, []), (31, [])] (by kernel_rfl) (by kernel_rfl) ?_
       refine at_seg [(0, []), (1, [])] [(2, .ptr (some (h.size, 0))), (38, .func (.func 25) [] [.ptr (some (h1.size, 0))]), (39, .ptr (some (h.size, 1)))] H (noU_all rfl) (fun fr => by kernel_rfl) ?_
       intro fr H
       refine at_step (v := .int .i64 p0.A) (h1 := h7) [(2, .ptr (some (h.size, 0))), (38, .func (.func 25) [] [.ptr (some (h1.size, 0))]), (40, .int .i64 p0.A)] H (fun fr => by kernel_rfl) (fun fr => .of (s_ld (by kernel_rfl) (A.ld1 2 rfl (o := 1) rfl))) ?_
       intro fr t H
       replace A : HH g h7 [.obj h1.size (.cells none 2 [.int .i64 p1]), .obj h3.size (.cells none 2 (e_S_tree_Node x1)), .obj h.size (.cells none 2 (e_S_tree_Node p0))] F := (A.front 1 rfl)
       have A1 := A.cut 1
       obtain ⟨x9, hx, hm⟩ := bind_some hm
       obtain ⟨v1, h11, hr, rfl, A1⟩ := ok_tree_may_1_sIP (av := [.int .i64 p0.A, .ptr (some (h1.size, 0))]) hx (by kernel_rfl) A1
       replace A : HH g h11 [.obj h1.size (.cells none 2 [.int .i64 p1]), .obj h3.size (.cells none 2 (e_S_tree_Node x1)), .obj h.size (.cells none 2 (e_S_tree_Node p0))] F := A.glue0 (n := 1) A1
       refine at_step (v := .bool x9) (h1 := h11) [(2, .ptr (some (h.size, 0))), (41, .bool x9)] H (fun fr => by kernel_rfl) (fun fr => Steps.call (by kernel_rfl) hr) ?_
       intro fr t H
       refine at_seg [(4, [])] [(2, .ptr (some (h.size, 0))), (42, .bool x9)] H (noU_all rfl) (fun fr => by kernel_rfl) ?_
       intro fr H
       refine at_cut [(5, []), (6, []), (7, []), (8, [])] (fun fr' h' => h11 = h' ∧ Has fr' 85 [(2, .ptr (some (h.size, 0))), (46, .bool (x9 && (decide (p0.Min ≥ (0 : Int)))))]) ?_ ?_
       ·cases hb : (x9 : Bool) with
        | true =>
         replace H := H.know 42 hb (by kernel_rfl)
         refine at_seg [(5, [])] [(2, .ptr (some (h.size, 0))), (42, .bool true), (43, .ptr (some (h.size, 3)))] H (noU_all rfl) (fun fr => by kernel_rfl) ?_
         intro fr H
         refine at_step (v := .int .i64 p0.Min) (h1 := h11) [(2, .ptr (some (h.size, 0))), (42, .bool true), (44, .int .i64 p0.Min)] H (fun fr => by kernel_rfl) (fun fr => .of (s_ld (by kernel_rfl) (A.ld1 2 rfl (o := 3) rfl))) ?_
         intro fr t H
         refine at_seg [(7, []), (8, [])] [(2, .ptr (some (h.size, 0))), (46, .bool (decide (p0.Min ≥ (0 : Int))))] H (noU_all rfl) (fun fr => by kernel_rfl) ?_
         intro fr H
         exact at_nil ⟨rfl, by first | exact H.less _ (fun fr => by rfl) | exact H.less _ (fun fr => by rw [hb]; rfl)⟩
        | false =>
         replace H := H.know 42 hb (by kernel_rfl)
         refine at_seg [(5, []), (6, []), (7, []), (8, [])] [(2, .ptr (some (h.size, 0))), (46, .bool false)] H (noU_all rfl) (fun fr => by kernel_rfl) ?_
         intro fr H
         exact at_nil ⟨rfl, by first | exact H.less _ (fun fr => by rfl) | exact H.less _ (fun fr => by rw [hb]; rfl)⟩
       ·intro t fr h' hK
        obtain ⟨e, H⟩ := hK
        subst e
        refine at_seg [(9, [])] [(2, .ptr (some (h.size, 0))), (47, .bool (x9 && (decide (p0.Min ≥ (0 : Int)))))] H (noU_all rfl) (fun fr => by kernel_rfl) ?_
        intro fr H
        refine at_cut [(10, []), (11, []), (12, []), (13, [])] (fun fr' h' => h11 = h' ∧ Has fr' 85 [(2, .ptr (some (h.size, 0))), (51, .bool ((x9 && (decide (p0.Min ≥ (0 : Int)))) && (decide (p0.Min ≤ (255 : Int)))))]) ?_ ?_
        ·cases hb : (x9 && (decide (p0.Min ≥ (0 : Int))) : Bool) with
         | true =>
          replace H := H.know 47 hb (by kernel_rfl)
          refine at_seg [(10, [])] [(2, .ptr (some (h.size, 0))), (47, .bool true), (48, .ptr (some (h.size, 3)))] H (noU_all rfl) (fun fr => by kernel_rfl) ?_
          intro fr H
          refine at_step (v := .int .i64 p0.Min) (h1 := h11) [(2, .ptr (some (h.size, 0))), (47, .bool true), (49, .int .i64 p0.Min)] H (fun fr => by kernel_rfl) (fun fr => .of (s_ld (by kernel_rfl) (A.ld1 2 rfl (o := 3) rfl))) ?_
          intro fr t H
          refine at_seg [(12, []), (13, [])] [(2, .ptr (some (h.size, 0))), (51, .bool (decide (p0.Min ≤ (255 : Int))))] H (noU_all rfl) (fun fr => by kernel_rfl) ?_
          intro fr H
          exact at_nil ⟨rfl, by first | exact H.less _ (fun fr => by rfl) | exact H.less _ (fun fr => by rw [hb]; rfl)⟩
         | false =>
          replace H := H.know 47 hb (by kernel_rfl)
          refine at_seg [(10, []), (11, []), (12, []), (13, [])] [(2, .ptr (some (h.size, 0))), (51, .bool false)] H (noU_all rfl) (fun fr => by kernel_rfl) ?_
          intro fr H
          exact at_nil ⟨rfl, by first | exact H.less _ (fun fr => by rfl) | exact H.less _ (fun fr => by rw [hb]; rfl)⟩
        ·intro t fr h' hK
         obtain ⟨e, H⟩ := hK
         subst e
         refine at_seg [(14, [])] [(2, .ptr (some (h.size, 0))), (52, .bool ((x9 && (decide (p0.Min ≥ (0 : Int)))) && (decide (p0.Min ≤ (255 : Int)))))] H (noU_all rfl) (fun fr => by kernel_rfl) ?_
         intro fr H
         refine at_cut [(15, []), (16, []), (17, []), (18, []), (19, []), (20, []), (21, []), (22, []), (23, []), (24, []), (25, []), (26, []), (27, []), (28, []), (29, []), (30, [])] (fun fr' h' => h11 = h' ∧ Has fr' 85 [(68, .bool (((x9 && (decide (p0.Min ≥ (0 : Int)))) && (decide (p0.Min ≤ (255 : Int)))) && ((p0.Max == (-1 : Int)) || ((decide (p0.Max ≥ p0.Min)) && (decide (p0.Max ≤ (255 : Int)))))))]) ?_ ?_
         ·cases hb : ((x9 && (decide (p0.Min ≥ (0 : Int)))) && (decide (p0.Min ≤ (255 : Int))) : Bool) with
          | true =>
           replace H := H.know 52 hb (by kernel_rfl)
           refine at_seg [(15, [])] [(2, .ptr (some (h.size, 0))), (52, .bool true), (53, .ptr (some (h.size, 4)))] H (noU_all rfl) (fun fr => by kernel_rfl) ?_
           intro fr H
           refine at_step (v := .int .i64 p0.Max) (h1 := h11) [(2, .ptr (some (h.size, 0))), (52, .bool true), (54, .int .i64 p0.Max)] H (fun fr => by kernel_rfl) (fun fr => .of (s_ld (by kernel_rfl) (A.ld1 2 rfl (o := 4) rfl))) ?_
           intro fr t H
           refine at_seg [(17, []), (18, [])] [(2, .ptr (some (h.size, 0))), (52, .bool true), (56, .bool (p0.Max == (-1 : Int)))] H (noU_all rfl) (fun fr => by kernel_rfl) ?_
           intro fr H
           refine at_cut [(19, []), (20, []), (21, []), (22, []), (23, []), (24, []), (25, []), (26, []), (27, []), (28, []), (29, [])] (fun fr' h' => h11 = h' ∧ Has fr' 85 [(52, .bool true), (67, .bool ((p0.Max == (-1 : Int)) || ((decide (p0.Max ≥ p0.Min)) && (decide (p0.Max ≤ (255 : Int))))))]) ?_ ?_
           ·cases hb : (p0.Max == (-1 : Int) : Bool) with
            | true =>
             replace H := H.know 56 hb (by kernel_rfl)
             refine at_seg [(19, []), (20, []), (21, []), (22, []), (23, []), (24, []), (25, []), (26, []), (27, []), (28, []), (29, [])] [(52, .bool true), (67, .bool true)] H (noU_all rfl) (fun fr => by kernel_rfl) ?_
             intro fr H
             exact at_nil ⟨rfl, by first | exact H.less _ (fun fr => by rfl) | exact H.less _ (fun fr => by rw [hb]; rfl)⟩
            | false =>
             replace H := H.know 56 hb (by kernel_rfl)
             refine at_seg [(19, [])] [(2, .ptr (some (h.size, 0))), (52, .bool true), (56, .bool false), (57, .ptr (some (h.size, 4)))] H (noU_all rfl) (fun fr => by kernel_rfl) ?_
             intro fr H
             refine at_step (v := .int .i64 p0.Max) (h1 := h11) [(2, .ptr (some (h.size, 0))), (52, .bool true), (56, .bool false), (58, .int .i64 p0.Max)] H (fun fr => by kernel_rfl) (fun fr => .of (s_ld (by kernel_rfl) (A.ld1 2 rfl (o := 4) rfl))) ?_
             intro fr t H
             refine at_seg [(21, [])] [(2, .ptr (some (h.size, 0))), (52, .bool true), (56, .bool false), (58, .int .i64 p0.Max), (59, .ptr (some (h.size, 3)))] H (noU_all rfl) (fun fr => by kernel_rfl) ?_
             intro fr H
             refine at_step (v := .int .i64 p0.Min) (h1 := h11) [(2, .ptr (some (h.size, 0))), (52, .bool true), (56, .bool false), (58, .int .i64 p0.Max), (60, .int .i64 p0.Min)] H (fun fr => by kernel_rfl) (fun fr => .of (s_ld (by kernel_rfl) (A.ld1 2 rfl (o := 3) rfl))) ?_
             intro fr t H
             refine at_seg [(23, []), (24, [])] [(2, .ptr (some (h.size, 0))), (52, .bool true), (56, .bool false), (62, .bool (decide (p0.Max ≥ p0.Min)))] H (noU_all rfl) (fun fr => by kernel_rfl) ?_
             intro fr H
             refine at_cut [(25, []), (26, []), (27, []), (28, [])] (fun fr' h' => h11 = h' ∧ Has fr' 85 [(52, .bool true), (56, .bool false), (66, .bool ((decide (p0.Max ≥ p0.Min)) && (decide (p0.Max ≤ (255 : Int)))))]) ?_ ?_
             ·cases hb : (decide (p0.Max ≥ p0.Min) : Bool) with
              | true =>
               replace H := H.know 62 hb (by kernel_rfl)
               refine at_seg [(25, [])] [(52, .bool true), (56, .bool false), (62, .bool true), (63, .ptr (some (h.size, 4)))] H (noU_all rfl) (fun fr => by kernel_rfl) ?_
               intro fr H
               refine at_step (v := .int .i64 p0.Max) (h1 := h11) [(52, .bool true), (56, .bool false), (62, .bool true), (64, .int .i64 p0.Max)] H (fun fr => by kernel_rfl) (fun fr => .of (s_ld (by kernel_rfl) (A.ld1 2 rfl (o := 4) rfl))) ?_
               intro fr t H
               refine at_seg [(27, []), (28, [])] [(52, .bool true), (56, .bool false), (66, .bool (decide (p0.Max ≤ (255 : Int))))] H (noU_all rfl) (fun fr => by kernel_rfl) ?_
               intro fr H
               exact at_nil ⟨rfl, by first | exact H.less _ (fun fr => by rfl) | exact H.less _ (fun fr => by rw [hb]; rfl)⟩
              | false =>
               replace H := H.know 62 hb (by kernel_rfl)
               refine at_seg [(25, []), (26, []), (27, []), (28, [])] [(52, .bool true), (56, .bool false), (66, .bool false)] H (noU_all rfl) (fun fr => by kernel_rfl) ?_
               intro fr H
               exact at_nil ⟨rfl, by first | exact H.less _ (fun fr => by rfl) | exact H.less _ (fun fr => by rw [hb]; rfl)⟩
             ·intro t fr h' hK
              obtain ⟨e, H⟩ := hK
              subst e
              refine at_seg [(29, [])] [(52, .bool true), (67, .bool ((decide (p0.Max ≥ p0.Min)) && (decide (p0.Max ≤ (255 : Int)))))] H (noU_all rfl) (fun fr => by kernel_rfl) ?_
              intro fr H
              exact at_nil ⟨rfl, by first | exact H.less _ (fun fr => by rfl) | exact H.less _ (fun fr => by rw [hb]; rfl)⟩
           ·intro t fr h' hK
            obtain ⟨e, H⟩ := hK
            subst e
            refine at_seg [(30, [])] [(68, .bool ((p0.Max == (-1 : Int)) || ((decide (p0.Max ≥ p0.Min)) && (decide (p0.Max ≤ (255 : Int))))))] H (noU_all rfl) (fun fr => by kernel_rfl) ?_
            intro fr H
            exact at_nil ⟨rfl, by first | exact H.less _ (fun fr => by rfl) | exact H.less _ (fun fr => by rw [hb]; rfl)⟩
          | false =>
           replace H := H.know 52 hb (by kernel_rfl)
           refine at_seg [(15, []), (16, []), (17, []), (18, []), (19, []), (20, []), (21, []), (22, []), (23, []), (24, []), (25, []), (26, []), (27, []), (28, []), (29, []), (30, [])] [(68, .bool false)] H (noU_all rfl) (fun fr => by kernel_rfl) ?_
           intro fr H
           exact at_nil ⟨rfl, by first | exact H.less _ (fun fr => by rfl) | exact H.less _ (fun fr => by rw [hb]; rfl)⟩
         ·intro t fr h' hK
          obtain ⟨e, H⟩ := hK
          subst e
          refine at_seg [(31, [])] [(4, .bool (((x9 && (decide (p0.Min ≥ (0 : Int)))) && (decide (p0.Min ≤ (255 : Int)))) && ((p0.Max == (-1 : Int)) || ((decide (p0.Max ≥ p0.Min)) && (decide (p0.Max ≤ (255 : Int)))))))] H (noU_all rfl) (fun fr => by kernel_rfl) ?_
          intro fr H
          refine at_nil ?_
          show AW cfg 16 g (right (left (right (right (right (left (right (left (right (right (right (bodyC cfg.P 16)))))))))))) fr h11 _
          refine aw_ret (by kernel_rfl) ?_
          have e1 := Option.some.inj hm
          subst e1
          refine ⟨.inl rfl, .bool (((x9 && (decide (p0.Min ≥ (0 : Int)))) && (decide (p0.Min ≤ (255 : Int)))) && ((p0.Max == (-1 : Int)) || ((decide (p0.Max ≥ p0.Min)) && (decide (p0.Max ≤ (255 : Int)))))), resH H (fun fr => by kernel_rfl), ?_⟩
          replace A : HH g h11 [] F := (HH.dropF A 0)
          exact ⟨rfl, A⟩
      ·replace H := H.know 36 hb (by kernel_rfl)
       refine aw_false (x := .tmp 36) (by kernel_rfl) H (fun fr => by kernel_rfl) ?_
       refine aw_seq (by kernel_rfl) ?_
       refine aw_reg (id := 11) (n := 2) [(0, []), (1, [])] (by kernel_rfl) (by kernel_rfl) ?_
       refine at_seg [(0, []), (1, [])] [(2, .ptr (some (h.size, 0))), (7, .func (.func 25) [] [.ptr (some (h1.size, 0))]), (69, .bool (p0.Kind == (5 : Int)))] H (noU_all rfl) (fun fr => by kernel_rfl) ?_
       intro fr H
       refine at_nil ?_
       show AW cfg 16 g (right (right (right (right (right (left (right (left (right (right (right (bodyC cfg.P 16)))))))))))) fr h7 _
       rcases iteB_some hm with ⟨hb, hm⟩ | ⟨hb, hm⟩
       ·replace H := H.know 69 hb (by kernel_rfl)
        refine aw_true (x := .tmp 69) (by kernel_rfl) H (fun fr => by kernel_rfl) ?_
        refine aw_seq (by kernel_rfl) ?_
        refine aw_reg (id := 12) (n := 15) [(0, []), (1, []), (2, []), (3, []), (4, []), (5, []), (6, []), (7, []), (8, []), (9, []), (10, []), (11, []), (12, []), (13, []), (14, [])] (by kernel_rfl) (by kernel_rfl) ?_
        refine at_seg [(0, []), (1, [])] [(2, .ptr (some (h.size, 0))), (71, .func (.func 25) [] [.ptr (some (h1.size, 0))]), (72, .ptr (some (h.size, 1)))] H (noU_all rfl) (fun fr => by kernel_rfl) ?_
        intro fr H
        refine at_step (v := .int .i64 p0.A) (h1 := h7) [(2, .ptr (some (h.size, 0))), (71, .func (.func 25) [] [.ptr (some (h1.size, 0))]), (73, .int .i64 p0.A)] H (fun fr => by kernel_rfl) (fun fr => .of (s_ld (by kernel_rfl) (A.ld1 2 rfl (o := 1) rfl))) ?_
        intro fr t H
        replace A : HH g h7 [.obj h1.size (.cells none 2 [.int .i64 p1]), .obj h3.size (.cells none 2 (e_S_tree_Node x1)), .obj h.size (.cells none 2 (e_S_tree_Node p0))] F := (A.front 1 rfl)
        have A1 := A.cut 1
        obtain ⟨x10, hx, hm⟩ := bind_some hm
        obtain ⟨v1, h12, hr, rfl, A1⟩ := ok_tree_may_1_sIP (av := [.int .i64 p0.A, .ptr (some (h1.size, 0))]) hx (by kernel_rfl) A1
        replace A : HH g h12 [.obj h1.size (.cells none 2 [.int .i64 p1]), .obj h3.size (.cells none 2 (e_S_tree_Node x1)), .obj h.size (.cells none 2 (e_S_tree_Node p0))] F := A.glue0 (n := 1) A1
        refine at_step (v := .bool x10) (h1 := h12) [(2, .ptr (some (h.size, 0))), (74, .bool x10)] H (fun fr => by kernel_rfl) (fun fr => Steps.call (by kernel_rfl) hr) ?_
        intro fr t H
        refine at_seg [(4, [])] [(2, .ptr (some (h.size, 0))), (75, .bool x10)] H (noU_all rfl) (fun fr => by kernel_rfl) ?_
        intro fr H
        refine at_cut [(5, []), (6, []), (7, []), (8, [])] (fun fr' h' => h12 = h' ∧ Has fr' 85 [(2, .ptr (some (h.size, 0))), (79, .bool (x10 && (decide (p0.Group ≥ (1 : Int)))))]) ?_ ?_
        ·cases hb : (x10 : Bool) with
         | true =>
          replace H := H.know 75 hb (by kernel_rfl)
          refine at_seg [(5, [])] [(2, .ptr (some (h.size, 0))), (75, .bool true), (76, .ptr (some (h.size, 5)))] H (noU_all rfl) (fun fr => by kernel_rfl) ?_
          intro fr H
          refine at_step (v := .int .i64 p0.Group) (h1 := h12) [(2, .ptr (some (h.size, 0))), (75, .bool true), (77, .int .i64 p0.Group)] H (fun fr => by kernel_rfl) (fun fr => .of (s_ld (by kernel_rfl) (A.ld1 2 rfl (o := 5) rfl))) ?_
          intro fr t H
          refine at_seg [(7, []), (8, [])] [(2, .ptr (some (h.size, 0))), (79, .bool (decide (p0.Group ≥ (1 : Int))))] H (noU_all rfl) (fun fr => by kernel_rfl) ?_
          intro fr H
          exact at_nil ⟨rfl, by first | exact H.less _ (fun fr => by rfl) | exact H.less _ (fun fr => by rw [hb]; rfl)⟩
         | false =>
          replace H := H.know 75 hb (by kernel_rfl)
          refine at_seg [(5, []), (6, []), (7, []), (8, [])] [(2, .ptr (some (h.size, 0))), (79, .bool false)] H (noU_all rfl) (fun fr => by kernel_rfl) ?_
          intro fr H
          exact at_nil ⟨rfl, by first | exact H.less _ (fun fr => by rfl) | exact H.less _ (fun fr => by rw [hb]; rfl)⟩
        ·intro t fr h' hK
         obtain ⟨e, H⟩ := hK
         subst e
         refine at_seg [(9, [])] [(2, .ptr (some (h.size, 0))), (80, .bool (x10 && (decide (p0.Group ≥ (1 : Int)))))] H (noU_all rfl) (fun fr => by kernel_rfl) ?_
         intro fr H
         refine at_cut [(10, []), (11, []), (12, []), (13, [])] (fun fr' h' => h12 = h' ∧ Has fr' 85 [(84, .bool ((x10 && (decide (p0.Group ≥ (1 : Int)))) && (decide (p0.Group ≤ (1024 : Int)))))]) ?_ ?_
         ·cases hb : (x10 && (decide (p0.Group ≥ (1 : Int))) : Bool) with
          | true =>
           replace H := H.know 80 hb (by kernel_rfl)
           refine at_seg [(10, [])] [(80, .bool true), (81, .ptr (some (h.size, 5)))] H (noU_all rfl) (fun fr => by kernel_rfl) ?_
           intro fr H
           refine at_step (v := .int .i64 p0.Group) (h1 := h12) [(80, .bool true), (82, .int .i64 p0.Group)] H (fun fr => by kernel_rfl) (fun fr => .of (s_ld (by kernel_rfl) (A.ld1 2 rfl (o := 5) rfl))) ?_
           intro fr t H
           refine at_seg [(12, []), (13, [])] [(84, .bool (decide (p0.Group ≤ (1024 : Int))))] H (noU_all rfl) (fun fr => by kernel_rfl) ?_
           intro fr H
           exact at_nil ⟨rfl, by first | exact H.less _ (fun fr => by rfl) | exact H.less _ (fun fr => by rw [hb]; rfl)⟩
          | false =>
           replace H := H.know 80 hb (by kernel_rfl)
           refine at_seg [(10, []), (11, []), (12, []), (13, [])] [(84, .bool false)] H (noU_all rfl) (fun fr => by kernel_rfl) ?_
           intro fr H
           exact at_nil ⟨rfl, by first | exact H.less _ (fun fr => by rfl) | exact H.less _ (fun fr => by rw [hb]; rfl)⟩
         ·intro t fr h' hK
          obtain ⟨e, H⟩ := hK
          subst e
          refine at_seg [(14, [])] [(4, .bool ((x10 && (decide (p0.Group ≥ (1 : Int)))) && (decide (p0.Group ≤ (1024 : Int)))))] H (noU_all rfl) (fun fr => by kernel_rfl) ?_
          intro fr H
          refine at_nil ?_
          show AW cfg 16 g (right (left (right (right (right (right (right (left (right (left (right (right (right (bodyC cfg.P 16)))))))))))))) fr h12 _
          refine aw_ret (by kernel_rfl) ?_
          have e1 := Option.some.inj hm
          subst e1
          refine ⟨.inl rfl, .bool ((x10 && (decide (p0.Group ≥ (1 : Int)))) && (decide (p0.Group ≤ (1024 : Int)))), resH H (fun fr => by kernel_rfl), ?_⟩
          replace A : HH g h12 [] F := (HH.dropF A 0)
          exact ⟨rfl, A⟩
       ·replace H := H.know 69 hb (by kernel_rfl)
        refine aw_false (x := .tmp 69) (by kernel_rfl) H (fun fr => by kernel_rfl) ?_
        refine aw_skip (by kernel_rfl) ?_
        show AW cfg 16 g (right (right (right (right (bodyC cfg.P 16))))) fr h7 _
        refine aw_seq (by kernel_rfl) ?_
        refine aw_reg (id := 13) (n := 1) [(0, [])] (by kernel_rfl) (by kernel_rfl) ?_
        refine at_seg [(0, [])] [(4, .bool true)] H (noU_all rfl) (fun fr => by kernel_rfl) ?_
        intro fr H
        refine at_nil ?_
        show AW cfg 16 g (right (right (right (right (right (bodyC cfg.P 16)))))) fr h7 _
        refine aw_ret (by kernel_rfl) ?_
        have e1 := Option.some.inj hm
        subst e1
        refine ⟨.inl rfl, .bool true, resH H (fun fr => by kernel_rfl), ?_⟩
        replace A : HH g h7 [] F := (HH.dropF A 0)
        exact ⟨rfl, A⟩
    ·exact hF.elim
/-! ### (*boulter/tree.Tree).Add -/
noncomputable def M_tree_Tree_Add_sQ3OR (p0 : S_rex_walk) (p1 : S_tree_Node) : Option (Int × Int × S_rex_walk × (List S_tree_Node)) :=
 iteB (decide ((p0.t_.Nodes.length : Int) ≥ (1024 : Int))) (some ((0 : Int), (8 : Int), p0, p0.t_.Nodes)) ((M_tree_may p1 (p0.t_.Nodes.length : Int)).bind fun x1 => iteB (!x1) (some ((0 : Int), (1 : Int), p0, p0.t_.Nodes)) (need (okN 80 (p0.t_.Nodes.length + ([p1] : List S_tree_Node).length)) <| some (IntKind.i64.wrap (((p0.t_.Nodes ++ ([p1] : List S_tree_Node)).length : Int) - (1 : Int)), (0 : Int), (⟨p0.s_, p0.at_, p0.extended_, (⟨(p0.t_.Nodes ++ ([p1] : List S_tree_Node)), IntKind.i64.wrap (((p0.t_.Nodes ++ ([p1] : List S_tree_Node)).length : Int) - (1 : Int))⟩ : S_tree_Tree), p0.groups_, p0.depth_, p0.wrong_, p0.full_⟩ : S_rex_walk), (p0.t_.Nodes ++ ([p1] : List S_tree_Node)))))
theorem ok_tree_Tree_Add_sQ3OR {g : Gd} {h : AHeap} {F : List Ck} {p0 : S_rex_walk} {p1 : S_tree_Node} {bp0 : Nat} {rp0_3 : Option Nat} {q0 : Int} {q1 : Int} {u0 : S_rex_walk} {u1 : List S_tree_Node} {av : List AVal} (hm : M_tree_Tree_Add_sQ3OR p0 p1 = some (q0, q1, u0, u1)) (hc : canL (cfg.still 46) av = [.ptr (some (bp0, 3)), .agg (e_S_tree_Node p1)]) (A : HH g h [.obj bp0 (.cells none 2 [.str p0.s_, .int .i64 p0.at_, .bool p0.extended_, rowV rp0_3 p0.t_.Nodes.length, .int .i64 p0.t_.Root, .int .i64 p0.groups_, .int .i64 p0.depth_, .int .i64 p0.wrong_, .bool p0.full_]), .lst rp0_3 45 (lst e_S_tree_Node p0.t_.Nodes)] F) : ∃ v h', Runs cfg g h 46 av v h' ∧ ∃ (r'1 : Option Nat), v = .tuple [.int .i64 q0, .int .i64 q1] ∧ HH g h' [.obj bp0 (.cells none 2 [.str u0.s_, .int .i64 u0.at_, .bool u0.extended_, rowV r'1 u1.length, .int .i64 u0.t_.Root, .int .i64 u0.groups_, .int .i64 u0.depth_, .int .i64 u0.wrong_, .bool u0.full_]), .lst r'1 45 (lst e_S_tree_Node u1)] F := by
 refine runsQ1 (n := 45) (rs := [.tmp 4, .tmp 5]) (by kernel_rfl) hc (by kernel_rfl) ?_
 clear hc
 unfold M_tree_Tree_Add_sQ3OR at hm
 refine start (n := 45) [(0, .ptr (some (bp0, 3))), (1, .agg (e_S_tree_Node p1))] (by kernel_rfl) (by kernel_rfl) ?_
 intro fr H
 refine aw_seq (by kernel_rfl) ?_
 refine aw_reg (id := 0) (n := 3) [(0, []), (1, []), (2, [])] (by kernel_rfl) (by kernel_rfl) ?_
 obtain ⟨h1, e1⟩ : ∃ x, x = h.push (.cells none 2 (e_S_tree_Node p1)) := ⟨_, rfl⟩
 replace A := (A.push _).to e1
 refine at_step (v := .ptr (some (h.size, 0))) (h1 := h1) [(0, .ptr (some (bp0, 3))), (3, .ptr (some (h.size, 0)))] H (fun fr => by kernel_rfl) (fun fr => .of (s_n' (by kernel_rfl) (congrArg some e1.symm))) ?_
 intro fr t H
 refine at_seg [(1, []), (2, [])] [(0, .ptr (some (bp0, 3))), (3, .ptr (some (h.size, 0)))] H (noU_all rfl) (fun fr => by kernel_rfl) ?_
 intro fr H
 refine at_nil ?_
 show AW cfg 46 g (right (bodyC cfg.P 46)) fr h1 _
 refine aw_seq (by kernel_rfl) ?_
 refine aw_block (id := 0) (by kernel_rfl) ?_
 refine aw_seq (by kernel_rfl) ?_
 refine aw_reg (id := 1) (n := 7) [(0, []), (1, []), (2, []), (3, []), (4, []), (5, []), (6, [])] (by kernel_rfl) (by kernel_rfl) ?_
 refine at_seg [(0, []), (1, []), (2, [])] [(0, .ptr (some (bp0, 3))), (3, .ptr (some (h.size, 0))), (9, .ptr (some (bp0, 3)))] H (noU_all rfl) (fun fr => by kernel_rfl) ?_
 intro fr H
 refine at_step (v := rowV rp0_3 p0.t_.Nodes.length) (h1 := h1) [(0, .ptr (some (bp0, 3))), (3, .ptr (some (h.size, 0))), (10, rowV rp0_3 p0.t_.Nodes.length)] H (fun fr => by kernel_rfl) (fun fr => .of (s_ld (by kernel_rfl) (A.ld1 1 rfl (o := 3) rfl))) ?_
 intro fr t H
 refine at_seg [(4, []), (5, []), (6, [])] [(0, .ptr (some (bp0, 3))), (3, .ptr (some (h.size, 0))), (6, .bool (decide ((p0.t_.Nodes.length : Int) ≥ (1024 : Int))))] H (noU_all rfl) (fun fr => by kernel_rfl) ?_
 intro fr H
 refine at_nil ?_
 show AW cfg 46 g (right (left (left (right (bodyC cfg.P 46))))) fr h1 _
 rcases iteB_some hm with ⟨hb, hm⟩ | ⟨hb, hm⟩
 ·replace H := H.know 6 hb (by kernel_rfl)
  refine aw_true (x := .tmp 6) (by kernel_rfl) H (fun fr => by kernel_rfl) ?_
  refine aw_seq (by kernel_rfl) ?_
  refine aw_reg (id := 2) (n := 2) [(0, []), (1, [])] (by kernel_rfl) (by kernel_rfl) ?_
  refine at_seg [(0, []), (1, [])] [(4, .int .i64 (0 : Int)), (5, .int .i64 (8 : Int))] H (noU_all rfl) (fun fr => by kernel_rfl) ?_
  intro fr H
  refine at_nil ?_
  show AW cfg 46 g (right (left (right (left (left (right (bodyC cfg.P 46))))))) fr h1 _
  refine aw_ret (by kernel_rfl) ?_
  have e0 := Option.some.inj hm
  obtain ⟨y0, z0⟩ := Prod.mk.inj e0
  obtain ⟨y1, z1⟩ := Prod.mk.inj z0
  obtain ⟨y2, z2⟩ := Prod.mk.inj z1
  subst y0
  subst y1
  subst y2
  subst z2
  refine ⟨.inl rfl, .tuple [.int .i64 (0 : Int), .int .i64 (8 : Int)], resH H (fun fr => by kernel_rfl), ?_⟩
  replace A : HH g h1 [.obj bp0 (.cells none 2 [.str p0.s_, .int .i64 p0.at_, .bool p0.extended_, rowV rp0_3 p0.t_.Nodes.length, .int .i64 p0.t_.Root, .int .i64 p0.groups_, .int .i64 p0.depth_, .int .i64 p0.wrong_, .bool p0.full_]), .lst rp0_3 45 (lst e_S_tree_Node p0.t_.Nodes)] F := (HH.dropF ((A.front 2 rfl).front 2 rfl) 2)
  exact ⟨rp0_3, rfl, A⟩
 ·replace H := H.know 6 hb (by kernel_rfl)
  refine aw_false (x := .tmp 6) (by kernel_rfl) H (fun fr => by kernel_rfl) ?_
  refine aw_seq (by kernel_rfl) ?_
  refine aw_draw (id := 3) (n := 9) (by kernel_rfl) [(0, []), (1, []), (2, []), (3, []), (4, []), (5, []), (6, []), (7, []), (8, [])] (by kernel_rfl) ?_
  refine at_step (v := .agg (e_S_tree_Node p1)) (h1 := h1) [(0, .ptr (some (bp0, 3))), (3, .ptr (some (h.size, 0))), (14, .agg (e_S_tree_Node p1))] H (fun fr => by kernel_rfl) (fun fr => .of (s_ldA (by kernel_rfl) (A.ldA 0 rfl (o := 0) (n := 10) ⟨Nat.le_of_ble_eq_true rfl, rfl⟩))) ?_
  intro fr t H
  refine at_seg [(1, []), (2, []), (3, [])] [(0, .ptr (some (bp0, 3))), (3, .ptr (some (h.size, 0))), (14, .agg (e_S_tree_Node p1)), (17, .ptr (some (bp0, 3)))] H (noU_all rfl) (fun fr => by kernel_rfl) ?_
  intro fr H
  refine at_step (v := rowV rp0_3 p0.t_.Nodes.length) (h1 := h1) [(0, .ptr (some (bp0, 3))), (3, .ptr (some (h.size, 0))), (14, .agg (e_S_tree_Node p1)), (18, rowV rp0_3 p0.t_.Nodes.length)] H (fun fr => by kernel_rfl) (fun fr => .of (s_ld (by kernel_rfl) (A.ld1 1 rfl (o := 3) rfl))) ?_
  intro fr t H
  refine at_seg [(5, [])] [(0, .ptr (some (bp0, 3))), (3, .ptr (some (h.size, 0))), (14, .agg (e_S_tree_Node p1)), (19, .int .i64 (p0.t_.Nodes.length : Int))] H (noU_all rfl) (fun fr => by kernel_rfl) ?_
  intro fr H
  have A1 := A.cut 0
  obtain ⟨x1, hx, hm⟩ := bind_some hm
  obtain ⟨v1, h2, hr, rfl, A1⟩ := ok_tree_may (av := [.agg (e_S_tree_Node p1), .int .i64 (p0.t_.Nodes.length : Int)]) hx (by kernel_rfl) A1
  replace A : HH g h2 [.obj h.size (.cells none 2 (e_S_tree_Node p1)), .obj bp0 (.cells none 2 [.str p0.s_, .int .i64 p0.at_, .bool p0.extended_, rowV rp0_3 p0.t_.Nodes.length, .int .i64 p0.t_.Root, .int .i64 p0.groups_, .int .i64 p0.depth_, .int .i64 p0.wrong_, .bool p0.full_]), .lst rp0_3 45 (lst e_S_tree_Node p0.t_.Nodes)] F := A.glue0 (n := 0) A1
  refine at_step (v := .bool x1) (h1 := h2) [(0, .ptr (some (bp0, 3))), (3, .ptr (some (h.size, 0))), (20, .bool x1)] H (fun fr => by kernel_rfl) (fun fr => Steps.call (by kernel_rfl) hr) ?_
  intro fr t H
  refine at_seg [(7, []), (8, [])] [(0, .ptr (some (bp0, 3))), (3, .ptr (some (h.size, 0))), (13, .bool (!x1))] H (noU_all rfl) (fun fr => by kernel_rfl) ?_
  intro fr H
  refine at_nil ?_
  show AW cfg 46 g (right (right (right (left (left (right (bodyC cfg.P 46))))))) fr h2 _
  rcases iteB_some hm with ⟨hb, hm⟩ | ⟨hb, hm⟩
  ·replace H := H.know 13 hb (by kernel_rfl)
   refine aw_true (x := .tmp 13) (by kernel_rfl) H (fun fr => by kernel_rfl) ?_
   refine aw_seq (by kernel_rfl) ?_
   refine aw_reg (id := 4) (n := 2) [(0, []), (1, [])] (by kernel_rfl) (by kernel_rfl) ?_
   refine at_seg [(0, []), (1, [])] [(4, .int .i64 (0 : Int)), (5, .int .i64 (1 : Int))] H (noU_all rfl) (fun fr => by kernel_rfl) ?_
   intro fr H
   refine at_nil ?_
   show AW cfg 46 g (right (left (right (right (right (left (left (right (bodyC cfg.P 46))))))))) fr h2 _
   refine aw_ret (by kernel_rfl) ?_
   have e0 := Option.some.inj hm
   obtain ⟨y0, z0⟩ := Prod.mk.inj e0
   obtain ⟨y1, z1⟩ := Prod.mk.inj z0
   obtain ⟨y2, z2⟩ := Prod.mk.inj z1
   subst y0
   subst y1
   subst y2
   subst z2
   refine ⟨.inl rfl, .tuple [.int .i64 (0 : Int), .int .i64 (1 : Int)], resH H (fun fr => by kernel_rfl), ?_⟩
   replace A : HH g h2 [.obj bp0 (.cells none 2 [.str p0.s_, .int .i64 p0.at_, .bool p0.extended_, rowV rp0_3 p0.t_.Nodes.length, .int .i64 p0.t_.Root, .int .i64 p0.groups_, .int .i64 p0.depth_, .int .i64 p0.wrong_, .bool p0.full_]), .lst rp0_3 45 (lst e_S_tree_Node p0.t_.Nodes)] F := (HH.dropF ((A.front 2 rfl).front 2 rfl) 2)
   exact ⟨rp0_3, rfl, A⟩
  ·replace H := H.know 13 hb (by kernel_rfl)
   refine aw_false (x := .tmp 13) (by kernel_rfl) H (fun fr => by kernel_rfl) ?_
   refine aw_skip (by kernel_rfl) ?_
   show AW cfg 46 g (right (right (bodyC cfg.P 46))) fr h2 _
   refine aw_seq (by kernel_rfl) ?_
   refine aw_draw (id := 5) (n := 11) (by kernel_rfl) [(0, []), (1, []), (2, []), (3, []), (4, []), (5, []), (6, []), (7, []), (8, []), (9, []), (10, [])] (by kernel_rfl) ?_
   refine at_seg [(0, []), (1, []), (2, []), (3, [])] [(0, .ptr (some (bp0, 3))), (3, .ptr (some (h.size, 0))), (22, .ptr (some (bp0, 3))), (25, .ptr (some (bp0, 3)))] H (noU_all rfl) (fun fr => by kernel_rfl) ?_
   intro fr H
   refine at_step (v := rowV rp0_3 p0.t_.Nodes.length) (h1 := h2) [(0, .ptr (some (bp0, 3))), (3, .ptr (some (h.size, 0))), (22, .ptr (some (bp0, 3))), (26, rowV rp0_3 p0.t_.Nodes.length)] H (fun fr => by kernel_rfl) (fun fr => .of (s_ld (by kernel_rfl) (A.ld1 1 rfl (o := 3) rfl))) ?_
   intro fr t H
   refine at_step (v := .agg (e_S_tree_Node p1)) (h1 := h2) [(0, .ptr (some (bp0, 3))), (22, .ptr (some (bp0, 3))), (26, rowV rp0_3 p0.t_.Nodes.length), (27, .agg (e_S_tree_Node p1))] H (fun fr => by kernel_rfl) (fun fr => .of (s_ldA (by kernel_rfl) (A.ldA 0 rfl (o := 0) (n := 10) ⟨Nat.le_of_ble_eq_true rfl, rfl⟩))) ?_
   intro fr t H
   obtain ⟨h3, e2⟩ : ∃ x, x = h2.push (.cells (some 45) 2 [.int .i64 p1.Kind, .int .i64 p1.A, .int .i64 p1.B, .int .i64 p1.Min, .int .i64 p1.Max, .int .i64 p1.Group, .int .u64 p1.Set.w0, .int .u64 p1.Set.w1, .int .u64 p1.Set.w2, .int .u64 p1.Set.w3]) := ⟨_, rfl⟩
   replace A := (A.pushL _ _).to e2
   refine at_step (v := rowV (some h2.size) (([p1] : List S_tree_Node).length)) (h1 := h3) [(0, .ptr (some (bp0, 3))), (22, .ptr (some (bp0, 3))), (26, rowV rp0_3 p0.t_.Nodes.length), (28, rowV (some h2.size) (([p1] : List S_tree_Node).length))] H (fun fr => by kernel_rfl) (fun fr => .of (s_n' (by kernel_rfl) (congrArg some e2.symm))) ?_
   intro fr t H
   obtain ⟨hb, hm⟩ := need_some hm
   obtain ⟨r1, h4, hx, A1⟩ := HH.appO enc_S_tree_Node (by decide) A 3 (xs := p0.t_.Nodes) (ys := ([p1] : List S_tree_Node)) rfl (row_first A 0 rfl (n := ([p1] : List S_tree_Node).length) (z := 10) rfl (by decide)) rfl rfl hb
   replace A : HH g h4 [.lst (some h2.size) 45 ([.int .i64 p1.Kind, .int .i64 p1.A, .int .i64 p1.B, .int .i64 p1.Min, .int .i64 p1.Max, .int .i64 p1.Group, .int .u64 p1.Set.w0, .int .u64 p1.Set.w1, .int .u64 p1.Set.w2, .int .u64 p1.Set.w3]), .obj h.size (.cells none 2 (e_S_tree_Node p1)), .obj bp0 (.cells none 2 [.str p0.s_, .int .i64 p0.at_, .bool p0.extended_, rowV rp0_3 p0.t_.Nodes.length, .int .i64 p0.t_.Root, .int .i64 p0.groups_, .int .i64 p0.depth_, .int .i64 p0.wrong_, .bool p0.full_]), .lst r1 45 (lst e_S_tree_Node (p0.t_.Nodes ++ ([p1] : List S_tree_Node)))] F := A1
   replace A : HH g h4 [.obj h.size (.cells none 2 (e_S_tree_Node p1)), .obj bp0 (.cells none 2 [.str p0.s_, .int .i64 p0.at_, .bool p0.extended_, rowV rp0_3 p0.t_.Nodes.length, .int .i64 p0.t_.Root, .int .i64 p0.groups_, .int .i64 p0.depth_, .int .i64 p0.wrong_, .bool p0.full_]), .lst r1 45 (lst e_S_tree_Node (p0.t_.Nodes ++ ([p1] : List S_tree_Node)))] F := (HH.dropF (((A.front 3 rfl).front 3 rfl).front 3 rfl) 3)
   refine at_step (v := rowV r1 ((p0.t_.Nodes ++ ([p1] : List S_tree_Node)).length)) (h1 := h4) [(0, .ptr (some (bp0, 3))), (22, .ptr (some (bp0, 3))), (29, rowV r1 ((p0.t_.Nodes ++ ([p1] : List S_tree_Node)).length))] H (fun fr => by kernel_rfl) (fun fr => .of (s_app (s := rowS rp0_3 p0.t_.Nodes.length) (by kernel_rfl) hx)) ?_
   intro fr t H
   refine at_seg [(8, []), (9, [])] [(0, .ptr (some (bp0, 3))), (29, rowV r1 ((p0.t_.Nodes ++ ([p1] : List S_tree_Node)).length)), (31, .ptr (some (bp0, 3)))] H (noU_all rfl) (fun fr => by kernel_rfl) ?_
   intro fr H
   obtain ⟨h5, hx, A1⟩ := A.st 1 rfl (o := 3) (new := [rowV r1 ((p0.t_.Nodes ++ ([p1] : List S_tree_Node)).length)]) (ds := [.str p0.s_, .int .i64 p0.at_, .bool p0.extended_, rowV r1 ((p0.t_.Nodes ++ ([p1] : List S_tree_Node)).length), .int .i64 p0.t_.Root, .int .i64 p0.groups_, .int .i64 p0.depth_, .int .i64 p0.wrong_, .bool p0.full_]) (Nat.le_of_ble_eq_true rfl) rfl rfl
   replace A : HH g h5 [.obj h.size (.cells none 2 (e_S_tree_Node p1)), .obj bp0 (.cells none 2 [.str p0.s_, .int .i64 p0.at_, .bool p0.extended_, rowV r1 ((p0.t_.Nodes ++ ([p1] : List S_tree_Node)).length), .int .i64 p0.t_.Root, .int .i64 p0.groups_, .int .i64 p0.depth_, .int .i64 p0.wrong_, .bool p0.full_]), .lst r1 45 (lst e_S_tree_Node (p0.t_.Nodes ++ ([p1] : List S_tree_Node)))] F := A1
   refine at_step (v := .tuple []) (h1 := h5) [(0, .ptr (some (bp0, 3)))] H (fun fr => by kernel_rfl) (fun fr => .of (s_st (by kernel_rfl) rfl hx)) ?_
   intro fr t H
   refine at_nil ?_
   show AW cfg 46 g (right (right (right (bodyC cfg.P 46)))) fr h5 _
   refine aw_seq (by kernel_rfl) ?_
   refine aw_reg (id := 6) (n := 10) [(0, []), (1, []), (2, []), (3, []), (4, []), (5, []), (6, []), (7, []), (8, []), (9, [])] (by kernel_rfl) (by kernel_rfl) ?_
   refine at_seg [(0, []), (1, []), (2, []), (3, [])] [(0, .ptr (some (bp0, 3))), (32, .ptr (some (bp0, 3))), (35, .ptr (some (bp0, 3)))] H (noU_all rfl) (fun fr => by kernel_rfl) ?_
   intro fr H
   refine at_step (v := rowV r1 ((p0.t_.Nodes ++ ([p1] : List S_tree_Node)).length)) (h1 := h5) [(0, .ptr (some (bp0, 3))), (32, .ptr (some (bp0, 3))), (36, rowV r1 ((p0.t_.Nodes ++ ([p1] : List S_tree_Node)).length))] H (fun fr => by kernel_rfl) (fun fr => .of (s_ld (by kernel_rfl) (A.ld1 1 rfl (o := 3) rfl))) ?_
   intro fr t H
   refine at_seg [(5, []), (6, []), (7, []), (8, [])] [(0, .ptr (some (bp0, 3))), (38, .int .i64 (IntKind.i64.wrap (((p0.t_.Nodes ++ ([p1] : List S_tree_Node)).length : Int) - (1 : Int)))), (40, .ptr (some (bp0, 4)))] H (noU_all rfl) (fun fr => by kernel_rfl) ?_
   intro fr H
   obtain ⟨h6, hx, A1⟩ := A.st 1 rfl (o := 4) (new := [.int .i64 (IntKind.i64.wrap (((p0.t_.Nodes ++ ([p1] : List S_tree_Node)).length : Int) - (1 : Int)))]) (ds := [.str p0.s_, .int .i64 p0.at_, .bool p0.extended_, rowV r1 ((p0.t_.Nodes ++ ([p1] : List S_tree_Node)).length), .int .i64 (IntKind.i64.wrap (((p0.t_.Nodes ++ ([p1] : List S_tree_Node)).length : Int) - (1 : Int))), .int .i64 p0.groups_, .int .i64 p0.depth_, .int .i64 p0.wrong_, .bool p0.full_]) (Nat.le_of_ble_eq_true rfl) rfl rfl
   replace A : HH g h6 [.obj h.size (.cells none 2 (e_S_tree_Node p1)), .obj bp0 (.cells none 2 [.str p0.s_, .int .i64 p0.at_, .bool p0.extended_, rowV r1 ((p0.t_.Nodes ++ ([p1] : List S_tree_Node)).length), .int .i64 (IntKind.i64.wrap (((p0.t_.Nodes ++ ([p1] : List S_tree_Node)).length : Int) - (1 : Int))), .int .i64 p0.groups_, .int .i64 p0.depth_, .int .i64 p0.wrong_, .bool p0.full_]), .lst r1 45 (lst e_S_tree_Node (p0.t_.Nodes ++ ([p1] : List S_tree_Node)))] F := A1
   refine at_step (v := .tuple []) (h1 := h6) [(0, .ptr (some (bp0, 3)))] H (fun fr => by kernel_rfl) (fun fr => .of (s_st (by kernel_rfl) rfl hx)) ?_
   intro fr t H
   refine at_nil ?_
   show AW cfg 46 g (right (right (right (right (bodyC cfg.P 46))))) fr h6 _
   refine aw_seq (by kernel_rfl) ?_
   refine aw_reg (id := 7) (n := 6) [(0, []), (1, []), (2, []), (3, []), (4, []), (5, [])] (by kernel_rfl) (by kernel_rfl) ?_
   refine at_seg [(0, []), (1, []), (2, [])] [(43, .ptr (some (bp0, 4)))] H (noU_all rfl) (fun fr => by kernel_rfl) ?_
   intro fr H
   refine at_step (v := .int .i64 (IntKind.i64.wrap (((p0.t_.Nodes ++ ([p1] : List S_tree_Node)).length : Int) - (1 : Int)))) (h1 := h6) [(44, .int .i64 (IntKind.i64.wrap (((p0.t_.Nodes ++ ([p1] : List S_tree_Node)).length : Int) - (1 : Int))))] H (fun fr => by kernel_rfl) (fun fr => .of (s_ld (by kernel_rfl) (A.ld1 1 rfl (o := 4) rfl))) ?_
   intro fr t H
   refine at_seg [(4, []), (5, [])] [(4, .int .i64 (IntKind.i64.wrap (((p0.t_.Nodes ++ ([p1] : List S_tree_Node)).length : Int) - (1 : Int)))), (5, .int .i64 (0 : Int))] H (noU_all rfl) (fun fr => by kernel_rfl) ?_
   intro fr H
   refine at_nil ?_
   show AW cfg 46 g (right (right (right (right (right (bodyC cfg.P 46)))))) fr h6 _
   refine aw_ret (by kernel_rfl) ?_
   have e0 := Option.some.inj hm
   obtain ⟨y0, z0⟩ := Prod.mk.inj e0
   obtain ⟨y1, z1⟩ := Prod.mk.inj z0
   obtain ⟨y2, z2⟩ := Prod.mk.inj z1
   subst y0
   subst y1
   subst y2
   subst z2
   refine ⟨.inl rfl, .tuple [.int .i64 (IntKind.i64.wrap (((p0.t_.Nodes ++ ([p1] : List S_tree_Node)).length : Int) - (1 : Int))), .int .i64 (0 : Int)], resH H (fun fr => by kernel_rfl), ?_⟩
   replace A : HH g h6 [.obj bp0 (.cells none 2 [.str p0.s_, .int .i64 p0.at_, .bool p0.extended_, rowV r1 ((p0.t_.Nodes ++ ([p1] : List S_tree_Node)).length), .int .i64 (IntKind.i64.wrap (((p0.t_.Nodes ++ ([p1] : List S_tree_Node)).length : Int) - (1 : Int))), .int .i64 p0.groups_, .int .i64 p0.depth_, .int .i64 p0.wrong_, .bool p0.full_]), .lst r1 45 (lst e_S_tree_Node (p0.t_.Nodes ++ ([p1] : List S_tree_Node)))] F := (HH.dropF ((A.front 2 rfl).front 2 rfl) 2)
   exact ⟨r1, rfl, A⟩
/-! ### (*boulter/rex.walk).add -/
noncomputable def M_rex_walk_add_sPOR (p0 : S_rex_walk) (p1 : S_tree_Node) : Option (Int × S_rex_walk × (List S_tree_Node)) :=
 iteB p0.full_ (some ((0 : Int), p0, p0.t_.Nodes)) ((M_tree_Tree_Add_sQ3OR p0 p1).bind fun (x1, x2, x3, x4) => (iteB (x2 != (0 : Int)) (some true) (some x3.full_) : Option ((Bool))).bind fun x5 => some (x1, (⟨x3.s_, x3.at_, x3.extended_, (⟨x4, x3.t_.Root⟩ : S_tree_Tree), x3.groups_, x3.depth_, x3.wrong_, x5⟩ : S_rex_walk), x4))
theorem ok_rex_walk_add_sPOR {g : Gd} {h : AHeap} {F : List Ck} {p0 : S_rex_walk} {p1 : S_tree_Node} {bp0 : Nat} {rp0_3 : Option Nat} {q0 : Int} {u0 : S_rex_walk} {u1 : List S_tree_Node} {av : List AVal} (hm : M_rex_walk_add_sPOR p0 p1 = some (q0, u0, u1)) (hc : canL (cfg.still 31) av = [.ptr (some (bp0, 0)), .agg (e_S_tree_Node p1)]) (A : HH g h [.obj bp0 (.cells none 2 [.str p0.s_, .int .i64 p0.at_, .bool p0.extended_, rowV rp0_3 p0.t_.Nodes.length, .int .i64 p0.t_.Root, .int .i64 p0.groups_, .int .i64 p0.depth_, .int .i64 p0.wrong_, .bool p0.full_]), .lst rp0_3 45 (lst e_S_tree_Node p0.t_.Nodes)] F) : ∃ v h', Runs cfg g h 31 av v h' ∧ ∃ (r'1 : Option Nat), v = .int .i64 q0 ∧ HH g h' [.obj bp0 (.cells none 2 [.str u0.s_, .int .i64 u0.at_, .bool u0.extended_, rowV r'1 u1.length, .int .i64 u0.t_.Root, .int .i64 u0.groups_, .int .i64 u0.depth_, .int .i64 u0.wrong_, .bool u0.full_]), .lst r'1 45 (lst e_S_tree_Node u1)] F := by
 refine runsQ1 (n := 25) (rs := [.tmp 4]) (by kernel_rfl) hc (by kernel_rfl) ?_
 clear hc
 unfold M_rex_walk_add_sPOR at hm
 refine start (n := 25) [(0, .ptr (some (bp0, 0))), (1, .agg (e_S_tree_Node p1))] (by kernel_rfl) (by kernel_rfl) ?_
 intro fr H
 refine aw_seq (by kernel_rfl) ?_
 refine aw_reg (id := 0) (n := 2) [(0, []), (1, [])] (by kernel_rfl) (by kernel_rfl) ?_
 obtain ⟨h1, e1⟩ : ∃ x, x = h.push (.cells none 2 (e_S_tree_Node p1)) := ⟨_, rfl⟩
 replace A := (A.push _).to e1
 refine at_step (v := .ptr (some (h.size, 0))) (h1 := h1) [(0, .ptr (some (bp0, 0))), (3, .ptr (some (h.size, 0)))] H (fun fr => by kernel_rfl) (fun fr => .of (s_n' (by kernel_rfl) (congrArg some e1.symm))) ?_
 intro fr t H
 refine at_seg [(1, [])] [(0, .ptr (some (bp0, 0))), (3, .ptr (some (h.size, 0)))] H (noU_all rfl) (fun fr => by kernel_rfl) ?_
 intro fr H
 refine at_nil ?_
 show AW cfg 31 g (right (bodyC cfg.P 31)) fr h1 _
 refine aw_seq (by kernel_rfl) ?_
 refine aw_seq (by kernel_rfl) ?_
 refine aw_reg (id := 1) (n := 4) [(0, []), (1, []), (2, []), (3, [])] (by kernel_rfl) (by kernel_rfl) ?_
 refine at_seg [(0, []), (1, []), (2, [])] [(0, .ptr (some (bp0, 0))), (3, .ptr (some (h.size, 0))), (9, .ptr (some (bp0, 8)))] H (noU_all rfl) (fun fr => by kernel_rfl) ?_
 intro fr H
 refine at_step (v := .bool p0.full_) (h1 := h1) [(0, .ptr (some (bp0, 0))), (3, .ptr (some (h.size, 0))), (10, .bool p0.full_)] H (fun fr => by kernel_rfl) (fun fr => .of (s_ld (by kernel_rfl) (A.ld1 1 rfl (o := 8) rfl))) ?_
 intro fr t H
 refine at_nil ?_
 show AW cfg 31 g (right (left (right (bodyC cfg.P 31)))) fr h1 _
 rcases iteB_some hm with ⟨hb, hm⟩ | ⟨hb, hm⟩
 ·replace H := H.know 10 hb (by kernel_rfl)
  refine aw_true (x := .tmp 10) (by kernel_rfl) H (fun fr => by kernel_rfl) ?_
  refine aw_seq (by kernel_rfl) ?_
  refine aw_reg (id := 2) (n := 1) [(0, [])] (by kernel_rfl) (by kernel_rfl) ?_
  refine at_seg [(0, [])] [(4, .int .i64 (0 : Int))] H (noU_all rfl) (fun fr => by kernel_rfl) ?_
  intro fr H
  refine at_nil ?_
  show AW cfg 31 g (right (left (right (left (right (bodyC cfg.P 31)))))) fr h1 _
  refine aw_ret (by kernel_rfl) ?_
  have e0 := Option.some.inj hm
  obtain ⟨y0, z0⟩ := Prod.mk.inj e0
  obtain ⟨y1, z1⟩ := Prod.mk.inj z0
  subst y0
  subst y1
  subst z1
  refine ⟨.inl rfl, .int .i64 (0 : Int), resH H (fun fr => by kernel_rfl), ?_⟩
  replace A : HH g h1 [.obj bp0 (.cells none 2 [.str p0.s_, .int .i64 p0.at_, .bool p0.extended_, rowV rp0_3 p0.t_.Nodes.length, .int .i64 p0.t_.Root, .int .i64 p0.groups_, .int .i64 p0.depth_, .int .i64 p0.wrong_, .bool p0.full_]), .lst rp0_3 45 (lst e_S_tree_Node p0.t_.Nodes)] F := (HH.dropF ((A.front 2 rfl).front 2 rfl) 2)
  exact ⟨rp0_3, rfl, A⟩
 ·replace H := H.know 10 hb (by kernel_rfl)
  refine aw_false (x := .tmp 10) (by kernel_rfl) H (fun fr => by kernel_rfl) ?_
  refine aw_skip (by kernel_rfl) ?_
  show AW cfg 31 g (right (right (bodyC cfg.P 31))) fr h1 _
  refine aw_seq (by kernel_rfl) ?_
  refine aw_draw (id := 3) (n := 10) (by kernel_rfl) [(0, []), (1, []), (2, []), (3, []), (4, []), (5, []), (6, []), (7, []), (8, []), (9, [])] (by kernel_rfl) ?_
  refine at_seg [(0, []), (1, []), (2, [])] [(0, .ptr (some (bp0, 0))), (3, .ptr (some (h.size, 0))), (14, .ptr (some (bp0, 3)))] H (noU_all rfl) (fun fr => by kernel_rfl) ?_
  intro fr H
  refine at_step (v := .agg (e_S_tree_Node p1)) (h1 := h1) [(0, .ptr (some (bp0, 0))), (14, .ptr (some (bp0, 3))), (15, .agg (e_S_tree_Node p1))] H (fun fr => by kernel_rfl) (fun fr => .of (s_ldA (by kernel_rfl) (A.ldA 0 rfl (o := 0) (n := 10) ⟨Nat.le_of_ble_eq_true rfl, rfl⟩))) ?_
  intro fr t H
  replace A : HH g h1 [.obj bp0 (.cells none 2 [.str p0.s_, .int .i64 p0.at_, .bool p0.extended_, rowV rp0_3 p0.t_.Nodes.length, .int .i64 p0.t_.Root, .int .i64 p0.groups_, .int .i64 p0.depth_, .int .i64 p0.wrong_, .bool p0.full_]), .lst rp0_3 45 (lst e_S_tree_Node p0.t_.Nodes), .obj h.size (.cells none 2 (e_S_tree_Node p1))] F := ((A.front 2 rfl).front 2 rfl)
  have A1 := A.cut 2
  obtain ⟨⟨x1, x2, x3, x4⟩, hx, hm⟩ := bind_some hm
  obtain ⟨v1, h2, hr, r1, rfl, A1⟩ := ok_tree_Tree_Add_sQ3OR (av := [.ptr (some (bp0, 3)), .agg (e_S_tree_Node p1)]) hx (by kernel_rfl) A1
  replace A : HH g h2 [.obj bp0 (.cells none 2 [.str x3.s_, .int .i64 x3.at_, .bool x3.extended_, rowV r1 x4.length, .int .i64 x3.t_.Root, .int .i64 x3.groups_, .int .i64 x3.depth_, .int .i64 x3.wrong_, .bool x3.full_]), .lst r1 45 (lst e_S_tree_Node x4), .obj h.size (.cells none 2 (e_S_tree_Node p1))] F := A.glue0 (n := 2) A1
  refine at_step (v := .tuple [.int .i64 x1, .int .i64 x2]) (h1 := h2) [(0, .ptr (some (bp0, 0))), (16, .tuple [.int .i64 x1, .int .i64 x2])] H (fun fr => by kernel_rfl) (fun fr => Steps.call (by kernel_rfl) hr) ?_
  intro fr t H
  refine at_seg [(5, []), (6, []), (7, []), (8, []), (9, [])] [(0, .ptr (some (bp0, 0))), (5, .int .i64 x1), (6, .int .i64 x2)] H (noU_all rfl) (fun fr => by kernel_rfl) ?_
  intro fr H
  refine at_nil ?_
  show AW cfg 31 g (right (right (right (bodyC cfg.P 31)))) fr h2 _
  refine aw_seq (by kernel_rfl) ?_
  obtain ⟨o1, ho, hm⟩ := bind_some hm
  refine aw_mono (Q' := fun e fr' h' => (∃ (x5 : Bool), e = .normal ∧ x5 = o1 ∧ Has fr' 25 [(5, .int .i64 x1)] ∧ HH g h' [.obj bp0 (.cells none 2 [.str x3.s_, .int .i64 x3.at_, .bool x3.extended_, rowV r1 x4.length, .int .i64 x3.t_.Root, .int .i64 x3.groups_, .int .i64 x3.depth_, .int .i64 x3.wrong_, .bool x5]), .lst r1 45 (lst e_S_tree_Node x4), .obj h.size (.cells none 2 (e_S_tree_Node p1))] F) ∨ False) ?_ ?_
  ·replace hm := ho
   clear ho
   refine aw_seq (by kernel_rfl) ?_
   refine aw_reg (id := 4) (n := 2) [(0, []), (1, [])] (by kernel_rfl) (by kernel_rfl) ?_
   refine at_seg [(0, []), (1, [])] [(0, .ptr (some (bp0, 0))), (5, .int .i64 x1), (20, .bool (x2 != (0 : Int)))] H (noU_all rfl) (fun fr => by kernel_rfl) ?_
   intro fr H
   refine at_nil ?_
   show AW cfg 31 g (right (left (right (right (right (bodyC cfg.P 31)))))) fr h2 _
   rcases iteB_some hm with ⟨hb, hm⟩ | ⟨hb, hm⟩
   ·replace H := H.know 20 hb (by kernel_rfl)
    refine aw_true (x := .tmp 20) (by kernel_rfl) H (fun fr => by kernel_rfl) ?_
    refine aw_reg (id := 5) (n := 4) [(0, []), (1, []), (2, []), (3, [])] (by kernel_rfl) (by kernel_rfl) ?_
    refine at_seg [(0, []), (1, []), (2, [])] [(5, .int .i64 x1), (23, .ptr (some (bp0, 8)))] H (noU_all rfl) (fun fr => by kernel_rfl) ?_
    intro fr H
    obtain ⟨h3, hx, A1⟩ := A.st 0 rfl (o := 8) (new := [.bool true]) (ds := [.str x3.s_, .int .i64 x3.at_, .bool x3.extended_, rowV r1 x4.length, .int .i64 x3.t_.Root, .int .i64 x3.groups_, .int .i64 x3.depth_, .int .i64 x3.wrong_, .bool true]) (Nat.le_of_ble_eq_true rfl) rfl rfl
    replace A : HH g h3 [.obj bp0 (.cells none 2 [.str x3.s_, .int .i64 x3.at_, .bool x3.extended_, rowV r1 x4.length, .int .i64 x3.t_.Root, .int .i64 x3.groups_, .int .i64 x3.depth_, .int .i64 x3.wrong_, .bool true]), .lst r1 45 (lst e_S_tree_Node x4), .obj h.size (.cells none 2 (e_S_tree_Node p1))] F := A1
    refine at_step (v := .tuple []) (h1 := h3) [(5, .int .i64 x1)] H (fun fr => by kernel_rfl) (fun fr => .of (s_st (by kernel_rfl) rfl hx)) ?_
    intro fr t H
    refine at_nil ?_
    exact Or.inl ⟨true, rfl, Option.some.inj hm, H.less _ (fun fr => by kernel_rfl), A⟩
   ·replace H := H.know 20 hb (by kernel_rfl)
    refine aw_false (x := .tmp 20) (by kernel_rfl) H (fun fr => by kernel_rfl) ?_
    refine aw_skip (by kernel_rfl) ?_
    exact Or.inl ⟨x3.full_, rfl, Option.some.inj hm, H.less _ (fun fr => by kernel_rfl), A⟩
  ·clear ho
   clear A
   intro e fr h4 hQ
   rcases hQ with ⟨x5, rfl, rfl, H, A⟩ | hF
   ·skip
    show AW cfg 31 g (right (right (right (right (bodyC cfg.P 31))))) fr h4 _
    refine aw_seq (by kernel_rfl) ?_
    refine aw_reg (id := 6) (n := 2) [(0, []), (1, [])] (by kernel_rfl) (by kernel_rfl) ?_
    refine at_seg [(0, []), (1, [])] [(4, .int .i64 x1)] H (noU_all rfl) (fun fr => by kernel_rfl) ?_
    intro fr H
    refine at_nil ?_
    show AW cfg 31 g (right (right (right (right (right (bodyC cfg.P 31)))))) fr h4 _
    refine aw_ret (by kernel_rfl) ?_
    have e0 := Option.some.inj hm
    obtain ⟨y0, z0⟩ := Prod.mk.inj e0
    obtain ⟨y1, z1⟩ := Prod.mk.inj z0
    subst y0
    subst y1
    subst z1
    refine ⟨.inl rfl, .int .i64 x1, resH H (fun fr => by kernel_rfl), ?_⟩
    replace A : HH g h4 [.obj bp0 (.cells none 2 [.str x3.s_, .int .i64 x3.at_, .bool x3.extended_, rowV r1 x4.length, .int .i64 x3.t_.Root, .int .i64 x3.groups_, .int .i64 x3.depth_, .int .i64 x3.wrong_, .bool x5]), .lst r1 45 (lst e_S_tree_Node x4)] F := (HH.dropF ((A.front 1 rfl).front 1 rfl) 2)
    exact ⟨r1, rfl, A⟩
   ·exact hF.elim
/-! ### (*boulter/rex.walk).one -/
noncomputable def M_rex_walk_one_sPOI (p0 : S_rex_walk) (p1 : Int) : Option (Int × S_rex_walk × (List S_tree_Node)) :=
 (M_class_Range p1 p1).bind fun x1 => (M_rex_walk_add_sPOR p0 (⟨(1 : Int), (0 : Int), (0 : Int), (0 : Int), (0 : Int), (0 : Int), x1⟩ : S_tree_Node)).bind fun (x2, x3, x4) => some (x2, (⟨x3.s_, x3.at_, x3.extended_, (⟨x4, x3.t_.Root⟩ : S_tree_Tree), x3.groups_, x3.depth_, x3.wrong_, x3.full_⟩ : S_rex_walk), x4)
theorem ok_rex_walk_one_sPOI {g : Gd} {h : AHeap} {F : List Ck} {p0 : S_rex_walk} {p1 : Int} {bp0 : Nat} {rp0_3 : Option Nat} {q0 : Int} {u0 : S_rex_walk} {u1 : List S_tree_Node} {av : List AVal} (hm : M_rex_walk_one_sPOI p0 p1 = some (q0, u0, u1)) (hc : canL (cfg.still 30) av = [.ptr (some (bp0, 0)), .int .u8 p1]) (A : HH g h [.obj bp0 (.cells none 2 [.str p0.s_, .int .i64 p0.at_, .bool p0.extended_, rowV rp0_3 p0.t_.Nodes.length, .int .i64 p0.t_.Root, .int .i64 p0.groups_, .int .i64 p0.depth_, .int .i64 p0.wrong_, .bool p0.full_]), .lst rp0_3 45 (lst e_S_tree_Node p0.t_.Nodes)] F) : ∃ v h', Runs cfg g h 30 av v h' ∧ ∃ (r'1 : Option Nat), v = .int .i64 q0 ∧ HH g h' [.obj bp0 (.cells none 2 [.str u0.s_, .int .i64 u0.at_, .bool u0.extended_, rowV r'1 u1.length, .int .i64 u0.t_.Root, .int .i64 u0.groups_, .int .i64 u0.depth_, .int .i64 u0.wrong_, .bool u0.full_]), .lst r'1 45 (lst e_S_tree_Node u1)] F := by
 refine runsQ1 (n := 11) (rs := [.tmp 4]) (by kernel_rfl) hc (by kernel_rfl) ?_
 clear hc
 unfold M_rex_walk_one_sPOI at hm
 refine start (n := 11) [(0, .ptr (some (bp0, 0))), (1, .int .u8 p1)] (by kernel_rfl) (by kernel_rfl) ?_
 intro fr H
 refine aw_seq (by kernel_rfl) ?_
 refine aw_reg (id := 0) (n := 1) [(0, [])] (by kernel_rfl) (by kernel_rfl) ?_
 refine at_seg [(0, [])] [(0, .ptr (some (bp0, 0))), (1, .int .u8 p1)] H (noU_all rfl) (fun fr => by kernel_rfl) ?_
 intro fr H
 refine at_nil ?_
 show AW cfg 30 g (right (bodyC cfg.P 30)) fr h _
 refine aw_seq (by kernel_rfl) ?_
 refine aw_reg (id := 1) (n := 7) [(0, []), (1, []), (2, []), (3, []), (4, []), (5, []), (6, [])] (by kernel_rfl) (by kernel_rfl) ?_
 refine at_seg [(0, []), (1, []), (2, [])] [(5, .ptr (some (bp0, 0))), (6, .int .u8 p1), (7, .int .u8 p1)] H (noU_all rfl) (fun fr => by kernel_rfl) ?_
 intro fr H
 have A1 := A.cut 0
 obtain ⟨x1, hx, hm⟩ := bind_some hm
 obtain ⟨v1, h1, hr, rfl, A1⟩ := ok_class_Range (av := [.int .u8 p1, .int .u8 p1]) hx (by kernel_rfl) A1
 replace A : HH g h1 [.obj bp0 (.cells none 2 [.str p0.s_, .int .i64 p0.at_, .bool p0.extended_, rowV rp0_3 p0.t_.Nodes.length, .int .i64 p0.t_.Root, .int .i64 p0.groups_, .int .i64 p0.depth_, .int .i64 p0.wrong_, .bool p0.full_]), .lst rp0_3 45 (lst e_S_tree_Node p0.t_.Nodes)] F := A.glue0 (n := 0) A1
 refine at_step (v := .agg [.int .u64 x1.w0, .int .u64 x1.w1, .int .u64 x1.w2, .int .u64 x1.w3]) (h1 := h1) [(5, .ptr (some (bp0, 0))), (8, .agg [.int .u64 x1.w0, .int .u64 x1.w1, .int .u64 x1.w2, .int .u64 x1.w3])] H (fun fr => by kernel_rfl) (fun fr => Steps.call (by kernel_rfl) hr) ?_
 intro fr t H
 refine at_seg [(4, [])] [(5, .ptr (some (bp0, 0))), (9, .agg [.int .i64 (1 : Int), .int .i64 (0 : Int), .int .i64 (0 : Int), .int .i64 (0 : Int), .int .i64 (0 : Int), .int .i64 (0 : Int), .int .u64 x1.w0, .int .u64 x1.w1, .int .u64 x1.w2, .int .u64 x1.w3])] H (noU_all rfl) (fun fr => by kernel_rfl) ?_
 intro fr H
 have A1 := A.cut 2
 obtain ⟨⟨x2, x3, x4⟩, hx, hm⟩ := bind_some hm
 obtain ⟨v1, h2, hr, r1, rfl, A1⟩ := ok_rex_walk_add_sPOR (av := [.ptr (some (bp0, 0)), .agg [.int .i64 (1 : Int), .int .i64 (0 : Int), .int .i64 (0 : Int), .int .i64 (0 : Int), .int .i64 (0 : Int), .int .i64 (0 : Int), .int .u64 x1.w0, .int .u64 x1.w1, .int .u64 x1.w2, .int .u64 x1.w3]]) hx (by kernel_rfl) A1
 replace A : HH g h2 [.obj bp0 (.cells none 2 [.str x3.s_, .int .i64 x3.at_, .bool x3.extended_, rowV r1 x4.length, .int .i64 x3.t_.Root, .int .i64 x3.groups_, .int .i64 x3.depth_, .int .i64 x3.wrong_, .bool x3.full_]), .lst r1 45 (lst e_S_tree_Node x4)] F := A.glue0 (n := 2) A1
 refine at_step (v := .int .i64 x2) (h1 := h2) [(10, .int .i64 x2)] H (fun fr => by kernel_rfl) (fun fr => Steps.call (by kernel_rfl) hr) ?_
 intro fr t H
 refine at_seg [(6, [])] [(4, .int .i64 x2)] H (noU_all rfl) (fun fr => by kernel_rfl) ?_
 intro fr H
 refine at_nil ?_
 show AW cfg 30 g (right (right (bodyC cfg.P 30))) fr h2 _
 refine aw_ret (by kernel_rfl) ?_
 have e0 := Option.some.inj hm
 obtain ⟨y0, z0⟩ := Prod.mk.inj e0
 obtain ⟨y1, z1⟩ := Prod.mk.inj z0
 subst y0
 subst y1
 subst z1
 refine ⟨.inl rfl, .int .i64 x2, resH H (fun fr => by kernel_rfl), ?_⟩
 exact ⟨r1, rfl, A⟩
/-! ### (*boulter/rex.walk).repeats -/
noncomputable def M_rex_walk_repeats_sPOI_L0 (s : (List UInt8) × Int × Bool × Int × Int × Int × Int × Bool × (List S_tree_Node) × Int) : Option (((List UInt8) × Int × Bool × Int × Int × Int × Int × Bool × (List S_tree_Node) × Int) ⊕ (((List UInt8) × Int × Bool × Int × Int × Int × Int × Bool × (List S_tree_Node) × Int) ⊕ ((List UInt8) × Int × Bool × Int × Int × Int × Int × Bool × (List S_tree_Node) × Int))) :=
 match s with
 | (x1, x2, x3, x4, x5, x6, x7, x8, x9, x10) => (M_rex_walk_ok_sPO (⟨x1, x2, x3, (⟨x9, x4⟩ : S_tree_Tree), x5, x6, x7, x8⟩ : S_rex_walk)).bind fun x31 => iteB x31 (((subS x1 (some x2) none).bind fun x51 => (M_strings_HasPrefix x51 ([42] : List UInt8)).bind fun x52 => iteB x52 (some (.inl (x1, IntKind.i64.wrap (x2 + (1 : Int)), x3, x4, x5, x6, x7, x8, (0 : Int), (-1 : Int)))) ((M_rex_walk_next_sPOS (⟨x1, x2, x3, (⟨x9, x4⟩ : S_tree_Tree), x5, x6, x7, x8⟩ : S_rex_walk) ([43] : List UInt8)).bind fun (x53, x54) => iteB x53 (some (.inl (x54.s_, x54.at_, x54.extended_, x54.t_.Root, x54.groups_, x54.depth_, x54.wrong_, x54.full_, (1 : Int), (-1 : Int)))) ((M_rex_walk_next_sPOS (⟨x54.s_, x54.at_, x54.extended_, (⟨x9, x54.t_.Root⟩ : S_tree_Tree), x54.groups_, x54.depth_, x54.wrong_, x54.full_⟩ : S_rex_walk) ([63] : List UInt8)).bind fun (x55, x56) => iteB x55 (some (.inl (x56.s_, x56.at_, x56.extended_, x56.t_.Root, x56.groups_, x56.depth_, x56.wrong_, x56.full_, (0 : Int), (1 : Int)))) ((M_rex_walk_next_sPOS (⟨x56.s_, x56.at_, x56.extended_, (⟨x9, x56.t_.Root⟩ : S_tree_Tree), x56.groups_, x56.depth_, x56.wrong_, x56.full_⟩ : S_rex_walk) ([123] : List UInt8)).bind fun (x57, x58) => iteB x57 (none) (some (.inr (x58.s_, x58.at_, x58.extended_, x58.t_.Root, x58.groups_, x58.depth_, x58.wrong_, x58.full_, x10)))))) : Option (((List UInt8) × Int × Bool × Int × Int × Int × Int × Bool × Int × Int) ⊕ ((List UInt8) × Int × Bool × Int × Int × Int × Int × Bool × Int))).bind fun o2 => (match o2 with | .inl (x32, x33, x34, x35, x36, x37, x38, x39, x40, x41) => (M_rex_walk_add_sPOR (⟨x32, x33, x34, (⟨x9, x35⟩ : S_tree_Tree), x36, x37, x38, x39⟩ : S_rex_walk) (⟨(4 : Int), x10, (0 : Int), x40, x41, (0 : Int), (⟨(0 : Int), (0 : Int), (0 : Int), (0 : Int)⟩ : A4_uint64)⟩ : S_tree_Node)).bind fun (x59, x60, x61) => some (.inl (x60.s_, x60.at_, x60.extended_, x60.t_.Root, x60.groups_, x60.depth_, x60.wrong_, x60.full_, x61, x59)) | .inr (x42, x43, x44, x45, x46, x47, x48, x49, x50) => some (.inr (.inr (x42, x43, x44, x45, x46, x47, x48, x49, x9, x50))))) (some (.inr (.inl (x1, x2, x3, x4, x5, x6, x7, x8, x9, x10))))
noncomputable def M_rex_walk_repeats_sPOI (p0 : S_rex_walk) (p1 : Int) : Option (Int × S_rex_walk × (List S_tree_Node)) :=
 (loop (M_rex_walk_repeats_sPOI_L0) (p0.s_, p0.at_, p0.extended_, p0.t_.Root, p0.groups_, p0.depth_, p0.wrong_, p0.full_, p0.t_.Nodes, p1)).bind fun o1 => (match o1 with | .inl (x11, x12, x13, x14, x15, x16, x17, x18, x19, x20) => some (x20, (⟨x11, x12, x13, (⟨x19, x14⟩ : S_tree_Tree), x15, x16, x17, x18⟩ : S_rex_walk), x19) | .inr (x21, x22, x23, x24, x25, x26, x27, x28, x29, x30) => some (x30, (⟨x21, x22, x23, (⟨x29, x24⟩ : S_tree_Tree), x25, x26, x27, x28⟩ : S_rex_walk), x29))
theorem ok_rex_walk_repeats_sPOI {g : Gd} {h : AHeap} {F : List Ck} {p0 : S_rex_walk} {p1 : Int} {bp0 : Nat} {rp0_3 : Option Nat} {q0 : Int} {u0 : S_rex_walk} {u1 : List S_tree_Node} {av : List AVal} (hm : M_rex_walk_repeats_sPOI p0 p1 = some (q0, u0, u1)) (hc : canL (cfg.still 29) av = [.ptr (some (bp0, 0)), .int .i64 p1]) (A : HH g h [.obj bp0 (.cells none 2 [.str p0.s_, .int .i64 p0.at_, .bool p0.extended_, rowV rp0_3 p0.t_.Nodes.length, .int .i64 p0.t_.Root, .int .i64 p0.groups_, .int .i64 p0.depth_, .int .i64 p0.wrong_, .bool p0.full_]), .lst rp0_3 45 (lst e_S_tree_Node p0.t_.Nodes)] F) : ∃ v h', Runs cfg g h 29 av v h' ∧ ∃ (r'1 : Option Nat), v = .int .i64 q0 ∧ HH g h' [.obj bp0 (.cells none 2 [.str u0.s_, .int .i64 u0.at_, .bool u0.extended_, rowV r'1 u1.length, .int .i64 u0.t_.Root, .int .i64 u0.groups_, .int .i64 u0.depth_, .int .i64 u0.wrong_, .bool u0.full_]), .lst r'1 45 (lst e_S_tree_Node u1)] F := by
 refine runsQ1 (n := 62) (rs := [.tmp 4]) (by kernel_rfl) hc (by kernel_rfl) ?_
 clear hc
 unfold M_rex_walk_repeats_sPOI at hm
 refine start (n := 62) [(0, .ptr (some (bp0, 0))), (1, .int .i64 p1)] (by kernel_rfl) (by kernel_rfl) ?_
 intro fr H
 refine aw_seq (by kernel_rfl) ?_
 refine aw_reg (id := 0) (n := 1) [(0, [])] (by kernel_rfl) (by kernel_rfl) ?_
 refine at_seg [(0, [])] [(0, .ptr (some (bp0, 0))), (1, .int .i64 p1)] H (noU_all rfl) (fun fr => by kernel_rfl) ?_
 intro fr H
 refine at_nil ?_
 show AW cfg 29 g (right (bodyC cfg.P 29)) fr h _
 refine aw_seq (by kernel_rfl) ?_
 refine aw_block (id := 0) (by kernel_rfl) ?_
 obtain ⟨o1, ho, hm⟩ := bind_some hm
 refine aw_mono (Q' := fun e fr' h' => (∃ (x11 : List UInt8) (x12 : Int) (x13 : Bool) (x14 : Int) (x15 : Int) (x16 : Int) (x17 : Int) (x18 : Bool) (x19 : List S_tree_Node) (x20 : Int), e = .exit 0 ∧ .inl (x11, x12, x13, x14, x15, x16, x17, x18, x19, x20) = o1 ∧ ∃ (r2 : Option Nat), Has fr' 62 [(1, .int .i64 x20)] ∧ HH g h' [.obj bp0 (.cells none 2 [.str x11, .int .i64 x12, .bool x13, rowV r2 x19.length, .int .i64 x14, .int .i64 x15, .int .i64 x16, .int .i64 x17, .bool x18]), .lst r2 45 (lst e_S_tree_Node x19)] F) ∨ (∃ (x21 : List UInt8) (x22 : Int) (x23 : Bool) (x24 : Int) (x25 : Int) (x26 : Int) (x27 : Int) (x28 : Bool) (x29 : List S_tree_Node) (x30 : Int), e = .ret ∧ .inr (x21, x22, x23, x24, x25, x26, x27, x28, x29, x30) = o1 ∧ ∃ (r3 : Option Nat), Has fr' 62 [(4, .int .i64 x30)] ∧ HH g h' [.obj bp0 (.cells none 2 [.str x21, .int .i64 x22, .bool x23, rowV r3 x29.length, .int .i64 x24, .int .i64 x25, .int .i64 x26, .int .i64 x27, .bool x28]), .lst r3 45 (lst e_S_tree_Node x29)] F) ∨ False) ?_ ?_
 ·refine aw_loop (by kernel_rfl) (fun (s : (List UInt8) × Int × Bool × Int × Int × Int × Int × Bool × (List S_tree_Node) × Int) fr' h' => ∃ (x1 : List UInt8) (x2 : Int) (x3 : Bool) (x4 : Int) (x5 : Int) (x6 : Int) (x7 : Int) (x8 : Bool) (x9 : List S_tree_Node) (x10 : Int), (x1, x2, x3, x4, x5, x6, x7, x8, x9, x10) = s ∧ ∃ (r1 : Option Nat), Has fr' 62 [(0, .ptr (some (bp0, 0))), (1, .int .i64 x10)] ∧ HH g h' [.obj bp0 (.cells none 2 [.str x1, .int .i64 x2, .bool x3, rowV r1 x9.length, .int .i64 x4, .int .i64 x5, .int .i64 x6, .int .i64 x7, .bool x8]), .lst r1 45 (lst e_S_tree_Node x9)] F) ho ⟨p0.s_, p0.at_, p0.extended_, p0.t_.Root, p0.groups_, p0.depth_, p0.wrong_, p0.full_, p0.t_.Nodes, p1, rfl, rp0_3, H.less _ (fun fr => by kernel_rfl), A⟩ ?_
  clear ho hm H A
  intro s q fr h1 hI hm
  obtain ⟨x1, x2, x3, x4, x5, x6, x7, x8, x9, x10, rfl, r1, H, A⟩ := hI
  unfold M_rex_walk_repeats_sPOI_L0 at hm
  refine aw_seq (by kernel_rfl) ?_
  refine aw_seq (by kernel_rfl) ?_
  refine aw_reg (id := 1) (n := 2) [(0, []), (1, [])] (by kernel_rfl) (by kernel_rfl) ?_
  refine at_seg [(0, [])] [(0, .ptr (some (bp0, 0))), (1, .int .i64 x10), (9, .ptr (some (bp0, 0)))] H (noU_all rfl) (fun fr => by kernel_rfl) ?_
  intro fr H
  have A1 := A.cut 2
  obtain ⟨x31, hx, hm⟩ := bind_some hm
  obtain ⟨v1, h2, hr, rfl, A1⟩ := ok_rex_walk_ok_sPO (av := [.ptr (some (bp0, 0))]) hx (by kernel_rfl) A1
  replace A : HH g h2 [.obj bp0 (.cells none 2 [.str x1, .int .i64 x2, .bool x3, rowV r1 x9.length, .int .i64 x4, .int .i64 x5, .int .i64 x6, .int .i64 x7, .bool x8]), .lst r1 45 (lst e_S_tree_Node x9)] F := A.glue0 (n := 2) A1
  refine at_step (v := .bool x31) (h1 := h2) [(0, .ptr (some (bp0, 0))), (1, .int .i64 x10), (10, .bool x31)] H (fun fr => by kernel_rfl) (fun fr => Steps.call (by kernel_rfl) hr) ?_
  intro fr t H
  refine at_nil ?_
  show AW cfg 29 g (right (left (left (left (left (right (bodyC cfg.P 29))))))) fr h2 _
  rcases iteB_some hm with ⟨hb, hm⟩ | ⟨hb, hm⟩
  ·replace H := H.know 10 hb (by kernel_rfl)
   refine aw_true (x := .tmp 10) (by kernel_rfl) H (fun fr => by kernel_rfl) ?_
   refine aw_skip (by kernel_rfl) ?_
   show AW cfg 29 g (right (left (left (left (right (bodyC cfg.P 29)))))) fr h2 _
   refine aw_block (id := 1) (by kernel_rfl) ?_
   refine aw_seq (by kernel_rfl) ?_
   refine aw_reg (id := 2) (n := 5) [(0, []), (1, []), (2, []), (3, []), (4, [])] (by kernel_rfl) (by kernel_rfl) ?_
   refine at_seg [(0, []), (1, []), (2, [])] [(0, .ptr (some (bp0, 0))), (1, .int .i64 x10), (13, .ptr (some (bp0, 1)))] H (noU_all rfl) (fun fr => by kernel_rfl) ?_
   intro fr H
   refine at_step (v := .int .i64 x2) (h1 := h2) [(0, .ptr (some (bp0, 0))), (1, .int .i64 x10), (14, .int .i64 x2)] H (fun fr => by kernel_rfl) (fun fr => .of (s_ld (by kernel_rfl) (A.ld1 0 rfl (o := 1) rfl))) ?_
   intro fr t H
   refine at_seg [(4, [])] [(0, .ptr (some (bp0, 0))), (1, .int .i64 x10), (5, .int .i64 x2)] H (noU_all rfl) (fun fr => by kernel_rfl) ?_
   intro fr H
   refine at_nil ?_
   show AW cfg 29 g (right (left (right (left (left (left (right (bodyC cfg.P 29)))))))) fr h2 _
   refine aw_seq (by kernel_rfl) ?_
   refine aw_reg (id := 3) (n := 2) [(0, []), (1, [])] (by kernel_rfl) (by kernel_rfl) ?_
   refine at_seg [(0, []), (1, [])] [(0, .ptr (some (bp0, 0))), (1, .int .i64 x10), (5, .int .i64 x2), (6, .int .i64 (0 : Int)), (7, .int .i64 (-1 : Int))] H (noU_all rfl) (fun fr => by kernel_rfl) ?_
   intro fr H
   refine at_nil ?_
   show AW cfg 29 g (right (right (left (right (left (left (left (right (bodyC cfg.P 29))))))))) fr h2 _
   refine aw_seq (by kernel_rfl) ?_
   obtain ⟨o2, ho, hm⟩ := bind_some hm
   refine aw_mono (Q' := fun e fr' h' => (∃ (x32 : List UInt8) (x33 : Int) (x34 : Bool) (x35 : Int) (x36 : Int) (x37 : Int) (x38 : Int) (x39 : Bool) (x40 : Int) (x41 : Int), e = .normal ∧ .inl (x32, x33, x34, x35, x36, x37, x38, x39, x40, x41) = o2 ∧ Has fr' 62 [(0, .ptr (some (bp0, 0))), (1, .int .i64 x10), (6, .int .i64 x40), (7, .int .i64 x41)] ∧ HH g h' [.obj bp0 (.cells none 2 [.str x32, .int .i64 x33, .bool x34, rowV r1 x9.length, .int .i64 x35, .int .i64 x36, .int .i64 x37, .int .i64 x38, .bool x39]), .lst r1 45 (lst e_S_tree_Node x9)] F) ∨ (∃ (x42 : List UInt8) (x43 : Int) (x44 : Bool) (x45 : Int) (x46 : Int) (x47 : Int) (x48 : Int) (x49 : Bool) (x50 : Int), e = .ret ∧ .inr (x42, x43, x44, x45, x46, x47, x48, x49, x50) = o2 ∧ Has fr' 62 [(4, .int .i64 x50)] ∧ HH g h' [.obj bp0 (.cells none 2 [.str x42, .int .i64 x43, .bool x44, rowV r1 x9.length, .int .i64 x45, .int .i64 x46, .int .i64 x47, .int .i64 x48, .bool x49]), .lst r1 45 (lst e_S_tree_Node x9)] F) ∨ False) ?_ ?_
   ·replace hm := ho
    clear ho
    refine aw_block (id := 2) (by kernel_rfl) ?_
    refine aw_seq (by kernel_rfl) ?_
    refine aw_draw (id := 5) (n := 11) (by kernel_rfl) [(0, []), (1, []), (2, []), (3, []), (4, []), (5, []), (6, []), (7, []), (8, []), (9, []), (10, [])] (by kernel_rfl) ?_
    refine at_seg [(0, []), (1, []), (2, [])] [(0, .ptr (some (bp0, 0))), (1, .int .i64 x10), (5, .int .i64 x2), (6, .int .i64 (0 : Int)), (7, .int .i64 (-1 : Int)), (19, .ptr (some (bp0, 0)))] H (noU_all rfl) (fun fr => by kernel_rfl) ?_
    intro fr H
    refine at_step (v := .str x1) (h1 := h2) [(0, .ptr (some (bp0, 0))), (1, .int .i64 x10), (5, .int .i64 x2), (6, .int .i64 (0 : Int)), (7, .int .i64 (-1 : Int)), (20, .str x1)] H (fun fr => by kernel_rfl) (fun fr => .of (s_ld (by kernel_rfl) (A.ld1 0 rfl (o := 0) rfl))) ?_
    intro fr t H
    refine at_seg [(4, []), (5, []), (6, [])] [(0, .ptr (some (bp0, 0))), (1, .int .i64 x10), (5, .int .i64 x2), (6, .int .i64 (0 : Int)), (7, .int .i64 (-1 : Int)), (20, .str x1), (23, .ptr (some (bp0, 1)))] H (noU_all rfl) (fun fr => by kernel_rfl) ?_
    intro fr H
    refine at_step (v := .int .i64 x2) (h1 := h2) [(0, .ptr (some (bp0, 0))), (1, .int .i64 x10), (5, .int .i64 x2), (6, .int .i64 (0 : Int)), (7, .int .i64 (-1 : Int)), (20, .str x1), (24, .int .i64 x2)] H (fun fr => by kernel_rfl) (fun fr => .of (s_ld (by kernel_rfl) (A.ld1 0 rfl (o := 1) rfl))) ?_
    intro fr t H
    obtain ⟨x51, hx, hm⟩ := bind_some hm
    refine at_step (v := .str x51) (h1 := h2) [(0, .ptr (some (bp0, 0))), (1, .int .i64 x10), (5, .int .i64 x2), (6, .int .i64 (0 : Int)), (7, .int .i64 (-1 : Int)), (25, .str x51)] H (fun fr => by kernel_rfl) (fun fr => .of (s_subS (k := .i64) (k' := .i64) (lo := (some x2)) (hi := none) (by kernel_rfl) hx)) ?_
    intro fr t H
    have A1 := A.cut 0
    obtain ⟨x52, hx, hm⟩ := bind_some hm
    obtain ⟨v1, h3, hr, rfl, A1⟩ := ok_strings_HasPrefix (av := [.str x51, .str ([42] : List UInt8)]) hx (by kernel_rfl) A1
    replace A : HH g h3 [.obj bp0 (.cells none 2 [.str x1, .int .i64 x2, .bool x3, rowV r1 x9.length, .int .i64 x4, .int .i64 x5, .int .i64 x6, .int .i64 x7, .bool x8]), .lst r1 45 (lst e_S_tree_Node x9)] F := A.glue0 (n := 0) A1
    refine at_step (v := .bool x52) (h1 := h3) [(0, .ptr (some (bp0, 0))), (1, .int .i64 x10), (5, .int .i64 x2), (6, .int .i64 (0 : Int)), (7, .int .i64 (-1 : Int)), (26, .bool x52)] H (fun fr => by kernel_rfl) (fun fr => Steps.call (by kernel_rfl) hr) ?_
    intro fr t H
    refine at_seg [(10, [])] [(0, .ptr (some (bp0, 0))), (1, .int .i64 x10), (5, .int .i64 x2), (6, .int .i64 (0 : Int)), (7, .int .i64 (-1 : Int)), (16, .bool x52)] H (noU_all rfl) (fun fr => by kernel_rfl) ?_
    intro fr H
    refine at_nil ?_
    show AW cfg 29 g (right (left (left (right (right (left (right (left (left (left (right (bodyC cfg.P 29)))))))))))) fr h3 _
    rcases iteB_some hm with ⟨hb, hm⟩ | ⟨hb, hm⟩
    ·replace H := H.know 16 hb (by kernel_rfl)
     refine aw_true (x := .tmp 16) (by kernel_rfl) H (fun fr => by kernel_rfl) ?_
     refine aw_reg (id := 6) (n := 8) [(0, []), (1, []), (2, []), (3, []), (4, []), (5, []), (6, []), (7, [])] (by kernel_rfl) (by kernel_rfl) ?_
     refine at_seg [(0, []), (1, []), (2, [])] [(0, .ptr (some (bp0, 0))), (1, .int .i64 x10), (6, .int .i64 (0 : Int)), (7, .int .i64 (-1 : Int)), (27, .ptr (some (bp0, 0))), (29, .ptr (some (bp0, 1)))] H (noU_all rfl) (fun fr => by kernel_rfl) ?_
     intro fr H
     refine at_step (v := .int .i64 x2) (h1 := h3) [(0, .ptr (some (bp0, 0))), (1, .int .i64 x10), (6, .int .i64 (0 : Int)), (7, .int .i64 (-1 : Int)), (27, .ptr (some (bp0, 0))), (30, .int .i64 x2)] H (fun fr => by kernel_rfl) (fun fr => .of (s_ld (by kernel_rfl) (A.ld1 0 rfl (o := 1) rfl))) ?_
     intro fr t H
     refine at_seg [(4, []), (5, []), (6, [])] [(0, .ptr (some (bp0, 0))), (1, .int .i64 x10), (6, .int .i64 (0 : Int)), (7, .int .i64 (-1 : Int)), (31, .int .i64 (IntKind.i64.wrap (x2 + (1 : Int)))), (33, .ptr (some (bp0, 1)))] H (noU_all rfl) (fun fr => by kernel_rfl) ?_
     intro fr H
     obtain ⟨h4, hx, A1⟩ := A.st 0 rfl (o := 1) (new := [.int .i64 (IntKind.i64.wrap (x2 + (1 : Int)))]) (ds := [.str x1, .int .i64 (IntKind.i64.wrap (x2 + (1 : Int))), .bool x3, rowV r1 x9.length, .int .i64 x4, .int .i64 x5, .int .i64 x6, .int .i64 x7, .bool x8]) (Nat.le_of_ble_eq_true rfl) rfl rfl
     replace A : HH g h4 [.obj bp0 (.cells none 2 [.str x1, .int .i64 (IntKind.i64.wrap (x2 + (1 : Int))), .bool x3, rowV r1 x9.length, .int .i64 x4, .int .i64 x5, .int .i64 x6, .int .i64 x7, .bool x8]), .lst r1 45 (lst e_S_tree_Node x9)] F := A1
     refine at_step (v := .tuple []) (h1 := h4) [(0, .ptr (some (bp0, 0))), (1, .int .i64 x10), (6, .int .i64 (0 : Int)), (7, .int .i64 (-1 : Int))] H (fun fr => by kernel_rfl) (fun fr => .of (s_st (by kernel_rfl) rfl hx)) ?_
     intro fr t H
     refine at_nil ?_
     exact Or.inl ⟨x1, IntKind.i64.wrap (x2 + (1 : Int)), x3, x4, x5, x6, x7, x8, (0 : Int), (-1 : Int), rfl, Option.some.inj hm, H.less _ (fun fr => by kernel_rfl), A⟩
    ·replace H := H.know 16 hb (by kernel_rfl)
     refine aw_false (x := .tmp 16) (by kernel_rfl) H (fun fr => by kernel_rfl) ?_
     refine aw_seq (by kernel_rfl) ?_
     refine aw_reg (id := 7) (n := 3) [(0, []), (1, []), (2, [])] (by kernel_rfl) (by kernel_rfl) ?_
     refine at_seg [(0, [])] [(0, .ptr (some (bp0, 0))), (1, .int .i64 x10), (5, .int .i64 x2), (6, .int .i64 (0 : Int)), (7, .int .i64 (-1 : Int)), (35, .ptr (some (bp0, 0)))] H (noU_all rfl) (fun fr => by kernel_rfl) ?_
     intro fr H
     have A1 := A.cut 2
     obtain ⟨⟨x53, x54⟩, hx, hm⟩ := bind_some hm
     obtain ⟨v1, h5, hr, rfl, A1⟩ := ok_rex_walk_next_sPOS (av := [.ptr (some (bp0, 0)), .str ([43] : List UInt8)]) hx (by kernel_rfl) A1
     replace A : HH g h5 [.obj bp0 (.cells none 2 [.str x54.s_, .int .i64 x54.at_, .bool x54.extended_, rowV r1 x9.length, .int .i64 x54.t_.Root, .int .i64 x54.groups_, .int .i64 x54.depth_, .int .i64 x54.wrong_, .bool x54.full_]), .lst r1 45 (lst e_S_tree_Node x9)] F := A.glue0 (n := 2) A1
     refine at_step (v := .bool x53) (h1 := h5) [(0, .ptr (some (bp0, 0))), (1, .int .i64 x10), (5, .int .i64 x2), (6, .int .i64 (0 : Int)), (7, .int .i64 (-1 : Int)), (36, .bool x53)] H (fun fr => by kernel_rfl) (fun fr => Steps.call (by kernel_rfl) hr) ?_
     intro fr t H
     refine at_seg [(2, [])] [(0, .ptr (some (bp0, 0))), (1, .int .i64 x10), (5, .int .i64 x2), (6, .int .i64 (0 : Int)), (7, .int .i64 (-1 : Int)), (34, .bool x53)] H (noU_all rfl) (fun fr => by kernel_rfl) ?_
     intro fr H
     refine at_nil ?_
     show AW cfg 29 g (right (right (right (left (left (right (right (left (right (left (left (left (right (bodyC cfg.P 29)))))))))))))) fr h5 _
     rcases iteB_some hm with ⟨hb, hm⟩ | ⟨hb, hm⟩
     ·replace H := H.know 34 hb (by kernel_rfl)
      refine aw_true (x := .tmp 34) (by kernel_rfl) H (fun fr => by kernel_rfl) ?_
      refine aw_reg (id := 8) (n := 1) [(0, [])] (by kernel_rfl) (by kernel_rfl) ?_
      refine at_seg [(0, [])] [(0, .ptr (some (bp0, 0))), (1, .int .i64 x10), (6, .int .i64 (1 : Int)), (7, .int .i64 (-1 : Int))] H (noU_all rfl) (fun fr => by kernel_rfl) ?_
      intro fr H
      refine at_nil ?_
      exact Or.inl ⟨x54.s_, x54.at_, x54.extended_, x54.t_.Root, x54.groups_, x54.depth_, x54.wrong_, x54.full_, (1 : Int), (-1 : Int), rfl, Option.some.inj hm, H.less _ (fun fr => by kernel_rfl), A⟩
     ·replace H := H.know 34 hb (by kernel_rfl)
      refine aw_false (x := .tmp 34) (by kernel_rfl) H (fun fr => by kernel_rfl) ?_
      refine aw_seq (by kernel_rfl) ?_
      refine aw_reg (id := 9) (n := 3) [(0, []), (1, []), (2, [])] (by kernel_rfl) (by kernel_rfl) ?_
      refine at_seg [(0, [])] [(0, .ptr (some (bp0, 0))), (1, .int .i64 x10), (5, .int .i64 x2), (6, .int .i64 (0 : Int)), (38, .ptr (some (bp0, 0)))] H (noU_all rfl) (fun fr => by kernel_rfl) ?_
      intro fr H
      have A1 := A.cut 2
      obtain ⟨⟨x55, x56⟩, hx, hm⟩ := bind_some hm
      obtain ⟨v1, h6, hr, rfl, A1⟩ := ok_rex_walk_next_sPOS (av := [.ptr (some (bp0, 0)), .str ([63] : List UInt8)]) hx (by kernel_rfl) A1
      replace A : HH g h6 [.obj bp0 (.cells none 2 [.str x56.s_, .int .i64 x56.at_, .bool x56.extended_, rowV r1 x9.length, .int .i64 x56.t_.Root, .int .i64 x56.groups_, .int .i64 x56.depth_, .int .i64 x56.wrong_, .bool x56.full_]), .lst r1 45 (lst e_S_tree_Node x9)] F := A.glue0 (n := 2) A1
      refine at_step (v := .bool x55) (h1 := h6) [(0, .ptr (some (bp0, 0))), (1, .int .i64 x10), (5, .int .i64 x2), (6, .int .i64 (0 : Int)), (39, .bool x55)] H (fun fr => by kernel_rfl) (fun fr => Steps.call (by kernel_rfl) hr) ?_
      intro fr t H
      refine at_seg [(2, [])] [(0, .ptr (some (bp0, 0))), (1, .int .i64 x10), (5, .int .i64 x2), (6, .int .i64 (0 : Int)), (37, .bool x55)] H (noU_all rfl) (fun fr => by kernel_rfl) ?_
      intro fr H
      refine at_nil ?_
      show AW cfg 29 g (right (right (right (right (right (left (left (right (right (left (right (left (left (left (right (bodyC cfg.P 29)))))))))))))))) fr h6 _
      rcases iteB_some hm with ⟨hb, hm⟩ | ⟨hb, hm⟩
      ·replace H := H.know 37 hb (by kernel_rfl)
       refine aw_true (x := .tmp 37) (by kernel_rfl) H (fun fr => by kernel_rfl) ?_
       refine aw_reg (id := 10) (n := 1) [(0, [])] (by kernel_rfl) (by kernel_rfl) ?_
       refine at_seg [(0, [])] [(0, .ptr (some (bp0, 0))), (1, .int .i64 x10), (6, .int .i64 (0 : Int)), (7, .int .i64 (1 : Int))] H (noU_all rfl) (fun fr => by kernel_rfl) ?_
       intro fr H
       refine at_nil ?_
       exact Or.inl ⟨x56.s_, x56.at_, x56.extended_, x56.t_.Root, x56.groups_, x56.depth_, x56.wrong_, x56.full_, (0 : Int), (1 : Int), rfl, Option.some.inj hm, H.less _ (fun fr => by kernel_rfl), A⟩
      ·replace H := H.know 37 hb (by kernel_rfl)
       refine aw_false (x := .tmp 37) (by kernel_rfl) H (fun fr => by kernel_rfl) ?_
       refine aw_seq (by kernel_rfl) ?_
       refine aw_reg (id := 11) (n := 3) [(0, []), (1, []), (2, [])] (by kernel_rfl) (by kernel_rfl) ?_
       refine at_seg [(0, [])] [(0, .ptr (some (bp0, 0))), (1, .int .i64 x10), (5, .int .i64 x2), (41, .ptr (some (bp0, 0)))] H (noU_all rfl) (fun fr => by kernel_rfl) ?_
       intro fr H
       have A1 := A.cut 2
       obtain ⟨⟨x57, x58⟩, hx, hm⟩ := bind_some hm
       obtain ⟨v1, h7, hr, rfl, A1⟩ := ok_rex_walk_next_sPOS (av := [.ptr (some (bp0, 0)), .str ([123] : List UInt8)]) hx (by kernel_rfl) A1
       replace A : HH g h7 [.obj bp0 (.cells none 2 [.str x58.s_, .int .i64 x58.at_, .bool x58.extended_, rowV r1 x9.length, .int .i64 x58.t_.Root, .int .i64 x58.groups_, .int .i64 x58.depth_, .int .i64 x58.wrong_, .bool x58.full_]), .lst r1 45 (lst e_S_tree_Node x9)] F := A.glue0 (n := 2) A1
       refine at_step (v := .bool x57) (h1 := h7) [(0, .ptr (some (bp0, 0))), (1, .int .i64 x10), (5, .int .i64 x2), (42, .bool x57)] H (fun fr => by kernel_rfl) (fun fr => Steps.call (by kernel_rfl) hr) ?_
       intro fr t H
       refine at_seg [(2, [])] [(0, .ptr (some (bp0, 0))), (1, .int .i64 x10), (5, .int .i64 x2), (40, .bool x57)] H (noU_all rfl) (fun fr => by kernel_rfl) ?_
       intro fr H
       refine at_nil ?_
       show AW cfg 29 g (right (right (right (right (right (right (right (left (left (right (right (left (right (left (left (left (right (bodyC cfg.P 29)))))))))))))))))) fr h7 _
       rcases iteB_some hm with ⟨hb, hm⟩ | ⟨hb, hm⟩
       ·replace H := H.know 40 hb (by kernel_rfl)
        refine aw_true (x := .tmp 40) (by kernel_rfl) H (fun fr => by kernel_rfl) ?_
        refine aw_seq (by kernel_rfl) ?_
        refine aw_reg (id := 12) (n := 1) [(0, [])] (by kernel_rfl) (by kernel_rfl) ?_
        refine at_seg [(0, [])] [(0, .ptr (some (bp0, 0))), (1, .int .i64 x10), (5, .int .i64 x2)] H (noU_all rfl) (fun fr => by kernel_rfl) ?_
        intro fr H
        refine at_nil ?_
        show AW cfg 29 g (right (left (right (right (right (right (right (right (right (left (left (right (right (left (right (left (left (left (right (bodyC cfg.P 29)))))))))))))))))))) fr h7 _
        refine aw_seq (by kernel_rfl) ?_
        refine aw_reg (id := 13) (n := 9) [(0, []), (1, []), (2, []), (3, []), (4, []), (5, []), (6, []), (7, []), (8, [])] (by kernel_rfl) (by kernel_rfl) ?_
        refine at_seg [(0, [])] [(0, .ptr (some (bp0, 0))), (1, .int .i64 x10), (5, .int .i64 x2), (44, .ptr (some (bp0, 0)))] H (noU_all rfl) (fun fr => by kernel_rfl) ?_
        intro fr H
        cases hm
       ·replace H := H.know 40 hb (by kernel_rfl)
        refine aw_false (x := .tmp 40) (by kernel_rfl) H (fun fr => by kernel_rfl) ?_
        refine aw_seq (by kernel_rfl) ?_
        refine aw_reg (id := 4) (n := 2) [(0, []), (1, [])] (by kernel_rfl) (by kernel_rfl) ?_
        refine at_seg [(0, []), (1, [])] [(4, .int .i64 x10)] H (noU_all rfl) (fun fr => by kernel_rfl) ?_
        intro fr H
        refine at_nil ?_
        show AW cfg 29 g (right (right (right (right (right (right (right (right (right (left (left (right (right (left (right (left (left (left (right (bodyC cfg.P 29)))))))))))))))))))) fr h7 _
        refine aw_ret (by kernel_rfl) ?_
        exact Or.inr (Or.inl ⟨x58.s_, x58.at_, x58.extended_, x58.t_.Root, x58.groups_, x58.depth_, x58.wrong_, x58.full_, x10, rfl, Option.some.inj hm, H.less _ (fun fr => by kernel_rfl), A⟩)
   ·clear ho
    clear A
    intro e fr h8 hQ
    rcases hQ with ⟨x32, x33, x34, x35, x36, x37, x38, x39, x40, x41, rfl, rfl, H, A⟩ | ⟨x42, x43, x44, x45, x46, x47, x48, x49, x50, rfl, rfl, H, A⟩ | hF
    ·skip
     show AW cfg 29 g (right (right (right (left (right (left (left (left (right (bodyC cfg.P 29)))))))))) fr h8 _
     refine aw_reg (id := 17) (n := 7) [(0, []), (1, []), (2, []), (3, []), (4, []), (5, []), (6, [])] (by kernel_rfl) (by kernel_rfl) ?_
     refine at_seg [(0, []), (1, []), (2, []), (3, []), (4, [])] [(0, .ptr (some (bp0, 0))), (55, .ptr (some (bp0, 0))), (59, .agg [.int .i64 (4 : Int), .int .i64 x10, .int .i64 (0 : Int), .int .i64 x40, .int .i64 x41, .int .i64 (0 : Int), .int .u64 (0 : Int), .int .u64 (0 : Int), .int .u64 (0 : Int), .int .u64 (0 : Int)])] H (noU_all rfl) (fun fr => by kernel_rfl) ?_
     intro fr H
     have A1 := A.cut 2
     obtain ⟨⟨x59, x60, x61⟩, hx, hm⟩ := bind_some hm
     obtain ⟨v1, h9, hr, r4, rfl, A1⟩ := ok_rex_walk_add_sPOR (av := [.ptr (some (bp0, 0)), .agg [.int .i64 (4 : Int), .int .i64 x10, .int .i64 (0 : Int), .int .i64 x40, .int .i64 x41, .int .i64 (0 : Int), .int .u64 (0 : Int), .int .u64 (0 : Int), .int .u64 (0 : Int), .int .u64 (0 : Int)]]) hx (by kernel_rfl) A1
     replace A : HH g h9 [.obj bp0 (.cells none 2 [.str x60.s_, .int .i64 x60.at_, .bool x60.extended_, rowV r4 x61.length, .int .i64 x60.t_.Root, .int .i64 x60.groups_, .int .i64 x60.depth_, .int .i64 x60.wrong_, .bool x60.full_]), .lst r4 45 (lst e_S_tree_Node x61)] F := A.glue0 (n := 2) A1
     refine at_step (v := .int .i64 x59) (h1 := h9) [(0, .ptr (some (bp0, 0))), (60, .int .i64 x59)] H (fun fr => by kernel_rfl) (fun fr => Steps.call (by kernel_rfl) hr) ?_
     intro fr t H
     refine at_seg [(6, [])] [(0, .ptr (some (bp0, 0))), (1, .int .i64 x59)] H (noU_all rfl) (fun fr => by kernel_rfl) ?_
     intro fr H
     refine at_nil ?_
     exact Exists.intro (x60.s_, x60.at_, x60.extended_, x60.t_.Root, x60.groups_, x60.depth_, x60.wrong_, x60.full_, x61, x59) (And.intro (Option.some.inj hm).symm ⟨x60.s_, x60.at_, x60.extended_, x60.t_.Root, x60.groups_, x60.depth_, x60.wrong_, x60.full_, x61, x59, rfl, r4, H.less _ (fun fr => by kernel_rfl), A⟩)
    ·skip
     exact Exists.intro _ (And.intro (Option.some.inj hm).symm (fun e => Or.inr (Or.inl ⟨x42, x43, x44, x45, x46, x47, x48, x49, x9, x50, rfl, e, r1, H.less _ (fun fr => by kernel_rfl), A⟩)))
    ·exact hF.elim
  ·replace H := H.know 10 hb (by kernel_rfl)
   refine aw_false (x := .tmp 10) (by kernel_rfl) H (fun fr => by kernel_rfl) ?_
   refine aw_exit (i := 0) (by kernel_rfl) ?_
   exact Exists.intro _ (And.intro (Option.some.inj hm).symm (fun e => Or.inl ⟨x1, x2, x3, x4, x5, x6, x7, x8, x9, x10, rfl, e, r1, H.less _ (fun fr => by kernel_rfl), A⟩))
 ·clear ho
  clear A
  intro e fr h10 hQ
  rcases hQ with ⟨x11, x12, x13, x14, x15, x16, x17, x18, x19, x20, rfl, rfl, r2, H, A⟩ | ⟨x21, x22, x23, x24, x25, x26, x27, x28, x29, x30, rfl, rfl, r3, H, A⟩ | hF
  ·skip
   show AW cfg 29 g (right (right (bodyC cfg.P 29))) fr h10 _
   refine aw_seq (by kernel_rfl) ?_
   refine aw_reg (id := 18) (n := 2) [(0, []), (1, [])] (by kernel_rfl) (by kernel_rfl) ?_
   refine at_seg [(0, []), (1, [])] [(4, .int .i64 x20)] H (noU_all rfl) (fun fr => by kernel_rfl) ?_
   intro fr H
   refine at_nil ?_
   show AW cfg 29 g (right (right (right (bodyC cfg.P 29)))) fr h10 _
   refine aw_ret (by kernel_rfl) ?_
   have e0 := Option.some.inj hm
   obtain ⟨y0, z0⟩ := Prod.mk.inj e0
   obtain ⟨y1, z1⟩ := Prod.mk.inj z0
   subst y0
   subst y1
   subst z1
   refine ⟨.inl rfl, .int .i64 x20, resH H (fun fr => by kernel_rfl), ?_⟩
   exact ⟨r2, rfl, A⟩
  ·skip
   have e0 := Option.some.inj hm
   obtain ⟨y0, z0⟩ := Prod.mk.inj e0
   obtain ⟨y1, z1⟩ := Prod.mk.inj z0
   subst y0
   subst y1
   subst z1
   refine ⟨.inl rfl, .int .i64 x30, resH H (fun fr => by kernel_rfl), ?_⟩
   exact ⟨r3, rfl, A⟩
  ·exact hF.elim
end Go.Av.L
