/-
  Models of functions, and that the abstract run tells them. Written by lift2.py.
-/
import Derived.Test.YtiodcbipjnmpgaaKCfg
import Derived.Test.YtiodcbipjnmpgaaK0
import Derived.Test.YtiodcbipjnmpgaaK1
import Derived.Test.YtiodcbipjnmpgaaK2
import Derived.Test.YtiodcbipjnmpgaaK3
namespace Go.Av.L
open Go.Av Go.Lib
set_option maxRecDepth 10000
set_option linter.unusedVariables false
set_option linter.unusedSimpArgs false
/-! ### boulter/auto.Build -/
noncomputable def M_auto_Build (p0 : S_tree_Tree) (p1 : Int) : Option ((Option S_auto_Auto) × Int) :=
 iteB ((decide (p1 < (1 : Int))) || (decide (p1 > (4096 : Int)))) (some (none, (6 : Int))) ((M_tree_Tree_Right p0).bind fun x1 => iteB (!x1) (some (none, (1 : Int))) ((M_auto_maker_lay_sPPOR (⟨p0, (⟨([] : List S_auto_state), (0 : Int)⟩ : S_auto_Auto), p1, false⟩ : S_auto_maker) (⟨(0 : Int), (0 : Int), (0 : Int), (⟨(0 : Int), (0 : Int), (0 : Int), (0 : Int)⟩ : A4_uint64)⟩ : S_auto_state)).bind fun (x2, x3, x4) => (M_auto_maker_node_sPPOII (⟨x3.t_, (⟨x4, (0 : Int)⟩ : S_auto_Auto), x3.most_, x3.full_⟩ : S_auto_maker) p0.Root x2).bind fun (x5, x6, x7) => iteB x6.full_ (some (none, (7 : Int))) (some (some (⟨x7, x5⟩ : S_auto_Auto), (0 : Int)))))
theorem ok_auto_Build {g : Gd} {h : AHeap} {F : List Ck} {p0 : S_tree_Tree} {p1 : Int} {o0 : Option S_auto_Auto} {q1 : Int} {av : List AVal} (hm : M_auto_Build p0 p1 = some (o0, q1)) (hc : canL (cfg.still 21) av = [.agg [vs e_S_tree_Node p0.Nodes, .int .i64 p0.Root], .int .i64 p1]) (A : HH g h [] F) : ∃ v h', Runs cfg g h 21 av v h' ∧ ((∃ (q0 : S_auto_Auto), o0 = some q0 ∧ v = .tuple [.vptr [vs e_S_auto_state q0.l_, .int .i64 q0.first_], .int .i64 q1] ∧ HH g h' [] F) ∨ (o0 = none ∧ v = .tuple [.ptr none, .int .i64 q1] ∧ HH g h' [] F)) := by
  refine runsQ9 (n := 47) (rs := [.tmp 4, .tmp 5]) (by kernel_rfl) hc (by kernel_rfl) ?_
  clear hc
  unfold M_auto_Build at hm
  refine start (n := 47) [(0, .agg [vs e_S_tree_Node p0.Nodes, .int .i64 p0.Root]), (1, .int .i64 p1)] (by kernel_rfl) (by kernel_rfl) ?_
  intro fr H
  refine aw_seq (by kernel_rfl) ?_
  refine aw_reg (id := 0) (n := 3) [(0, []), (1, []), (2, [])] (by kernel_rfl) (by kernel_rfl) ?_
  obtain ⟨h1, e1⟩ : ∃ x, x = h.push (.cells none 2 [vs e_S_tree_Node p0.Nodes, .int .i64 p0.Root]) := ⟨_, rfl⟩
  replace A := (A.push _).to e1
  refine at_step (v := .ptr (some (h.size, 0))) (h1 := h1) [(1, .int .i64 p1), (2, .ptr (some (h.size, 0)))] H (fun fr => by kernel_rfl) (fun fr => .of (s_n' (by kernel_rfl) (congrArg some e1.symm))) ?_
  intro fr t H
  refine at_seg [(1, []), (2, [])] [(1, .int .i64 p1), (2, .ptr (some (h.size, 0)))] H (noU_all rfl) (fun fr => by kernel_rfl) ?_
  intro fr H
  refine at_nil ?_
  show AW cfg 21 g (right (bodyC cfg.P 21)) fr h1 _
  refine aw_seq (by kernel_rfl) ?_
  refine aw_block (id := 0) (by kernel_rfl) ?_
  refine aw_seq (by kernel_rfl) ?_
  refine aw_reg (id := 1) (n := 7) [(0, []), (1, []), (2, []), (3, []), (4, []), (5, []), (6, [])] (by kernel_rfl) (by kernel_rfl) ?_
  refine at_seg [(0, []), (1, []), (2, [])] [(1, .int .i64 p1), (2, .ptr (some (h.size, 0))), (11, .bool (decide (p1 < (1 : Int))))] H (noU_all rfl) (fun fr => by kernel_rfl) ?_
  intro fr H
  refine at_cut [(3, []), (4, []), (5, [])] (fun fr' h' => h1 = h' ∧ Has fr' 47 [(1, .int .i64 p1), (2, .ptr (some (h.size, 0))), (14, .bool ((decide (p1 < (1 : Int))) || (decide (p1 > (4096 : Int)))))]) ?_ ?_
  · cases hb : (decide (p1 < (1 : Int)) : Bool) with
    | true =>
      replace H := H.know 11 hb (by kernel_rfl)
      refine at_seg [(3, []), (4, []), (5, [])] [(1, .int .i64 p1), (2, .ptr (some (h.size, 0))), (14, .bool true)] H (noU_all rfl) (fun fr => by kernel_rfl) ?_
      intro fr H
      exact at_nil ⟨rfl, by first | exact H.less _ (fun fr => by rfl) | exact H.less _ (fun fr => by rw [hb]; rfl)⟩
    | false =>
      replace H := H.know 11 hb (by kernel_rfl)
      refine at_seg [(3, []), (4, []), (5, [])] [(1, .int .i64 p1), (2, .ptr (some (h.size, 0))), (14, .bool (decide (p1 > (4096 : Int))))] H (noU_all rfl) (fun fr => by kernel_rfl) ?_
      intro fr H
      exact at_nil ⟨rfl, by first | exact H.less _ (fun fr => by rfl) | exact H.less _ (fun fr => by rw [hb]; rfl)⟩
  · intro t fr h' hK
    obtain ⟨e, H⟩ := hK
    subst e
    refine at_seg [(6, [])] [(1, .int .i64 p1), (2, .ptr (some (h.size, 0))), (8, .bool ((decide (p1 < (1 : Int))) || (decide (p1 > (4096 : Int)))))] H (noU_all rfl) (fun fr => by kernel_rfl) ?_
    intro fr H
    refine at_nil ?_
    show AW cfg 21 g (right (left (left (right (bodyC cfg.P 21))))) fr h1 _
    rcases iteB_some hm with ⟨hb, hm⟩ | ⟨hb, hm⟩
    · replace H := H.know 8 hb (by kernel_rfl)
      refine aw_true (x := .tmp 8) (by kernel_rfl) H (fun fr => by kernel_rfl) ?_
      refine aw_seq (by kernel_rfl) ?_
      refine aw_reg (id := 2) (n := 2) [(0, []), (1, [])] (by kernel_rfl) (by kernel_rfl) ?_
      refine at_seg [(0, []), (1, [])] [(4, .ptr none), (5, .int .i64 (6 : Int))] H (noU_all rfl) (fun fr => by kernel_rfl) ?_
      intro fr H
      refine at_nil ?_
      show AW cfg 21 g (right (left (right (left (left (right (bodyC cfg.P 21))))))) fr h1 _
      refine aw_ret (by kernel_rfl) ?_
      have e0 := Option.some.inj hm
      obtain ⟨y0, z0⟩ := Prod.mk.inj e0
      subst y0
      subst z0
      refine ⟨.inl rfl, .tuple [.ptr none, .int .i64 (6 : Int)], resH H (fun fr => by kernel_rfl), ?_⟩
      replace A : HH g h1 [] F := (HH.dropF A 0)
      refine ⟨.tuple [.ptr none, .int .i64 (6 : Int)], h1, by first | rfl | (simp only [fz4T, fz4P, fzP0, fzPA, fzPR, fzPV, fzPQ, fzPI, fzPB, fzPS, fzPN, fz1Q, fz10, fz1I, fz1B, fz1S, fz1V, fz1N, fzL0, fzL1, Option.map_some] <;> rfl), ?_⟩
      exact Or.inr ⟨rfl, rfl, A⟩
    · replace H := H.know 8 hb (by kernel_rfl)
      refine aw_false (x := .tmp 8) (by kernel_rfl) H (fun fr => by kernel_rfl) ?_
      refine aw_seq (by kernel_rfl) ?_
      refine aw_reg (id := 3) (n := 4) [(0, []), (1, []), (2, []), (3, [])] (by kernel_rfl) (by kernel_rfl) ?_
      refine at_step (v := .agg [vs e_S_tree_Node p0.Nodes, .int .i64 p0.Root]) (h1 := h1) [(1, .int .i64 p1), (2, .ptr (some (h.size, 0))), (16, .agg [vs e_S_tree_Node p0.Nodes, .int .i64 p0.Root])] H (fun fr => by kernel_rfl) (fun fr => .of (s_ldA (by kernel_rfl) (A.ldA 0 rfl (o := 0) (n := 2) ⟨Nat.le_of_ble_eq_true rfl, rfl⟩))) ?_
      intro fr t H
      have A1 := A.cut 0
      obtain ⟨x1, hx, hm⟩ := bind_some hm
      obtain ⟨v1, h2, hr, rfl, A1⟩ := ok_tree_Tree_Right (av := [.agg [vs e_S_tree_Node p0.Nodes, .int .i64 p0.Root]]) hx (by kernel_rfl) A1
      replace A : HH g h2 [.obj h.size (.cells none 2 [vs e_S_tree_Node p0.Nodes, .int .i64 p0.Root])] F := A.glue0 (n := 0) A1
      refine at_step (v := .bool x1) (h1 := h2) [(1, .int .i64 p1), (2, .ptr (some (h.size, 0))), (17, .bool x1)] H (fun fr => by kernel_rfl) (fun fr => Steps.call (by kernel_rfl) hr) ?_
      intro fr t H
      refine at_seg [(2, []), (3, [])] [(1, .int .i64 p1), (2, .ptr (some (h.size, 0))), (15, .bool (!x1))] H (noU_all rfl) (fun fr => by kernel_rfl) ?_
      intro fr H
      refine at_nil ?_
      show AW cfg 21 g (right (right (right (left (left (right (bodyC cfg.P 21))))))) fr h2 _
      rcases iteB_some hm with ⟨hb, hm⟩ | ⟨hb, hm⟩
      · replace H := H.know 15 hb (by kernel_rfl)
        refine aw_true (x := .tmp 15) (by kernel_rfl) H (fun fr => by kernel_rfl) ?_
        refine aw_seq (by kernel_rfl) ?_
        refine aw_reg (id := 4) (n := 2) [(0, []), (1, [])] (by kernel_rfl) (by kernel_rfl) ?_
        refine at_seg [(0, []), (1, [])] [(4, .ptr none), (5, .int .i64 (1 : Int))] H (noU_all rfl) (fun fr => by kernel_rfl) ?_
        intro fr H
        refine at_nil ?_
        show AW cfg 21 g (right (left (right (right (right (left (left (right (bodyC cfg.P 21))))))))) fr h2 _
        refine aw_ret (by kernel_rfl) ?_
        have e0 := Option.some.inj hm
        obtain ⟨y0, z0⟩ := Prod.mk.inj e0
        subst y0
        subst z0
        refine ⟨.inl rfl, .tuple [.ptr none, .int .i64 (1 : Int)], resH H (fun fr => by kernel_rfl), ?_⟩
        replace A : HH g h2 [] F := (HH.dropF A 0)
        refine ⟨.tuple [.ptr none, .int .i64 (1 : Int)], h2, by first | rfl | (simp only [fz4T, fz4P, fzP0, fzPA, fzPR, fzPV, fzPQ, fzPI, fzPB, fzPS, fzPN, fz1Q, fz10, fz1I, fz1B, fz1S, fz1V, fz1N, fzL0, fzL1, Option.map_some] <;> rfl), ?_⟩
        exact Or.inr ⟨rfl, rfl, A⟩
      · replace H := H.know 15 hb (by kernel_rfl)
        refine aw_false (x := .tmp 15) (by kernel_rfl) H (fun fr => by kernel_rfl) ?_
        refine aw_skip (by kernel_rfl) ?_
        show AW cfg 21 g (right (right (bodyC cfg.P 21))) fr h2 _
        refine aw_seq (by kernel_rfl) ?_
        refine aw_reg (id := 5) (n := 7) [(0, []), (1, []), (2, []), (3, []), (4, []), (5, []), (6, [])] (by kernel_rfl) (by kernel_rfl) ?_
        refine at_step (v := .agg [vs e_S_tree_Node p0.Nodes, .int .i64 p0.Root]) (h1 := h2) [(1, .int .i64 p1), (2, .ptr (some (h.size, 0))), (19, .agg [vs e_S_tree_Node p0.Nodes, .int .i64 p0.Root])] H (fun fr => by kernel_rfl) (fun fr => .of (s_ldA (by kernel_rfl) (A.ldA 0 rfl (o := 0) (n := 2) ⟨Nat.le_of_ble_eq_true rfl, rfl⟩))) ?_
        intro fr t H
        refine at_seg [(1, [])] [(1, .int .i64 p1), (2, .ptr (some (h.size, 0))), (19, .agg [vs e_S_tree_Node p0.Nodes, .int .i64 p0.Root]), (20, .agg [.slice none 0, .int .i64 (0 : Int)])] H (noU_all rfl) (fun fr => by kernel_rfl) ?_
        intro fr H
        obtain ⟨h3, e2⟩ : ∃ x, x = h2.push (.cells none 2 [.slice none 0, .int .i64 (0 : Int)]) := ⟨_, rfl⟩
        replace A := (A.push _).to e2
        refine at_step (v := .ptr (some (h2.size, 0))) (h1 := h3) [(1, .int .i64 p1), (2, .ptr (some (h.size, 0))), (19, .agg [vs e_S_tree_Node p0.Nodes, .int .i64 p0.Root]), (21, .ptr (some (h2.size, 0)))] H (fun fr => by kernel_rfl) (fun fr => .of (s_n' (by kernel_rfl) (congrArg some e2.symm))) ?_
        intro fr t H
        refine at_seg [(3, []), (4, [])] [(2, .ptr (some (h.size, 0))), (23, .agg [vs e_S_tree_Node p0.Nodes, .int .i64 p0.Root, .ptr (some (h2.size, 0)), .int .i64 p1, .bool false])] H (noU_all rfl) (fun fr => by kernel_rfl) ?_
        intro fr H
        obtain ⟨h4, e3⟩ : ∃ x, x = h3.push (.cells none 2 [vs e_S_tree_Node p0.Nodes, .int .i64 p0.Root, .ptr (some (h2.size, 0)), .int .i64 p1, .bool false]) := ⟨_, rfl⟩
        replace A := (A.push _).to e3
        refine at_step (v := .ptr (some (h3.size, 0))) (h1 := h4) [(2, .ptr (some (h.size, 0))), (24, .ptr (some (h3.size, 0)))] H (fun fr => by kernel_rfl) (fun fr => .of (s_n' (by kernel_rfl) (congrArg some e3.symm))) ?_
        intro fr t H
        refine at_seg [(6, [])] [(2, .ptr (some (h.size, 0))), (6, .ptr (some (h3.size, 0)))] H (noU_all rfl) (fun fr => by kernel_rfl) ?_
        intro fr H
        refine at_nil ?_
        show AW cfg 21 g (right (right (right (bodyC cfg.P 21)))) fr h4 _
        refine aw_seq (by kernel_rfl) ?_
        refine aw_reg (id := 6) (n := 4) [(0, []), (1, []), (2, []), (3, [])] (by kernel_rfl) (by kernel_rfl) ?_
        refine at_seg [(0, []), (1, [])] [(2, .ptr (some (h.size, 0))), (6, .ptr (some (h3.size, 0))), (25, .ptr (some (h3.size, 0))), (26, .agg [.int .i64 (0 : Int), .int .i64 (0 : Int), .int .i64 (0 : Int), .int .u64 (0 : Int), .int .u64 (0 : Int), .int .u64 (0 : Int), .int .u64 (0 : Int)])] H (noU_all rfl) (fun fr => by kernel_rfl) ?_
        intro fr H
        replace A : HH g h4 [.lst none 108 (lst e_S_auto_state ([] : List S_auto_state)), .obj h3.size (.cells none 2 [vs e_S_tree_Node p0.Nodes, .int .i64 p0.Root, .ptr (some (h2.size, 0)), .int .i64 p1, .bool false]), .obj h2.size (.cells none 2 [rowV none (([] : List S_auto_state).length), .int .i64 (0 : Int)]), .obj h.size (.cells none 2 [vs e_S_tree_Node p0.Nodes, .int .i64 p0.Root])] F := A.nilL 108
        replace A : HH g h4 [.obj h3.size (.cells none 2 [vs e_S_tree_Node p0.Nodes, .int .i64 p0.Root, .ptr (some (h2.size, 0)), .int .i64 p1, .bool false]), .obj h2.size (.cells none 2 [rowV none (([] : List S_auto_state).length), .int .i64 (0 : Int)]), .lst none 108 (lst e_S_auto_state ([] : List S_auto_state)), .obj h.size (.cells none 2 [vs e_S_tree_Node p0.Nodes, .int .i64 p0.Root])] F := (((A.front 0 rfl).front 2 rfl).front 2 rfl)
        have A1 := A.cut 3
        obtain ⟨⟨x2, x3, x4⟩, hx, hm⟩ := bind_some hm
        obtain ⟨v1, h5, hr, r1, rfl, A1⟩ := ok_auto_maker_lay_sPPOR (av := [.ptr (some (h3.size, 0)), .agg [.int .i64 (0 : Int), .int .i64 (0 : Int), .int .i64 (0 : Int), .int .u64 (0 : Int), .int .u64 (0 : Int), .int .u64 (0 : Int), .int .u64 (0 : Int)]]) hx (by kernel_rfl) A1
        replace A : HH g h5 [.obj h3.size (.cells none 2 [vs e_S_tree_Node x3.t_.Nodes, .int .i64 x3.t_.Root, .ptr (some (h2.size, 0)), .int .i64 x3.most_, .bool x3.full_]), .obj h2.size (.cells none 2 [rowV r1 x4.length, .int .i64 (0 : Int)]), .lst r1 108 (lst e_S_auto_state x4), .obj h.size (.cells none 2 [vs e_S_tree_Node p0.Nodes, .int .i64 p0.Root])] F := A.glue0 (n := 3) A1
        refine at_step (v := .int .i64 x2) (h1 := h5) [(2, .ptr (some (h.size, 0))), (6, .ptr (some (h3.size, 0))), (27, .int .i64 x2)] H (fun fr => by kernel_rfl) (fun fr => Steps.call (by kernel_rfl) hr) ?_
        intro fr t H
        refine at_seg [(3, [])] [(2, .ptr (some (h.size, 0))), (6, .ptr (some (h3.size, 0))), (7, .int .i64 x2)] H (noU_all rfl) (fun fr => by kernel_rfl) ?_
        intro fr H
        refine at_nil ?_
        show AW cfg 21 g (right (right (right (right (bodyC cfg.P 21))))) fr h5 _
        refine aw_seq (by kernel_rfl) ?_
        refine aw_draw (id := 7) (n := 12) (by kernel_rfl) [(0, []), (1, []), (2, []), (3, []), (4, []), (5, []), (6, []), (7, []), (8, [10003]), (9, []), (10, []), (11, [])] (by kernel_rfl) ?_
        refine at_seg [(0, []), (1, []), (2, [])] [(2, .ptr (some (h.size, 0))), (6, .ptr (some (h3.size, 0))), (7, .int .i64 x2), (30, .ptr (some (h3.size, 2)))] H (noU_all rfl) (fun fr => by kernel_rfl) ?_
        intro fr H
        refine at_stepT (v := .ptr (some (h2.size, 0))) (h1 := h5) (tch' := [(3, h3.size)]) (g.prot) [(2, .ptr (some (h.size, 0))), (6, .ptr (some (h3.size, 0))), (7, .int .i64 x2), (30, .ptr (some (h3.size, 2))), (31, .ptr (some (h2.size, 0)))] H (fun fr => by kernel_rfl) (by kernel_rfl) (fun fr => by kernel_rfl) (fun fr => .of (s_ld (by kernel_rfl) (A.ld1 0 rfl (o := 2) rfl))) (fun fr => by kernel_rfl) ?_
        intro fr H
        refine at_seg [(4, []), (5, [])] [(6, .ptr (some (h3.size, 0))), (7, .int .i64 x2), (30, .ptr (some (h3.size, 2))), (31, .ptr (some (h2.size, 0))), (32, .ptr (some (h3.size, 0))), (33, .ptr (some (h.size, 1)))] H (noU_all rfl) (fun fr => by kernel_rfl) ?_
        intro fr H
        refine at_stepT (v := .int .i64 p0.Root) (h1 := h5) (tch' := [(6, h.size), (3, h3.size)]) (g.prot) [(6, .ptr (some (h3.size, 0))), (7, .int .i64 x2), (30, .ptr (some (h3.size, 2))), (31, .ptr (some (h2.size, 0))), (32, .ptr (some (h3.size, 0))), (34, .int .i64 p0.Root)] H (fun fr => by kernel_rfl) (by kernel_rfl) (fun fr => by kernel_rfl) (fun fr => .of (s_ld (by kernel_rfl) (A.ld1 3 rfl (o := 1) rfl))) (fun fr => by kernel_rfl) ?_
        intro fr H
        refine at_seg [(7, [])] [(6, .ptr (some (h3.size, 0))), (30, .ptr (some (h3.size, 2))), (31, .ptr (some (h2.size, 0))), (32, .ptr (some (h3.size, 0))), (34, .int .i64 p0.Root), (35, .int .i64 x2)] H (noU_all rfl) (fun fr => by kernel_rfl) ?_
        intro fr H
        have A1 := A.cut 3
        obtain ⟨⟨x5, x6, x7⟩, hx, hm⟩ := bind_some hm
        obtain ⟨v1, h6, hr, r2, rfl, A1⟩ := ok_auto_maker_node_sPPOII (av := [.ptr (some (h3.size, 0)), .int .i64 p0.Root, .int .i64 x2]) hx (by kernel_rfl) A1
        replace A : HH g h6 [.obj h3.size (.cells none 2 [vs e_S_tree_Node x6.t_.Nodes, .int .i64 x6.t_.Root, .ptr (some (h2.size, 0)), .int .i64 x6.most_, .bool x6.full_]), .obj h2.size (.cells none 2 [rowV r2 x7.length, .int .i64 (0 : Int)]), .lst r2 108 (lst e_S_auto_state x7), .obj h.size (.cells none 2 [vs e_S_tree_Node p0.Nodes, .int .i64 p0.Root])] F := A.glue0 (n := 3) A1
        refine at_stepT (v := .int .i64 x5) (h1 := h6) (tch' := [(6, h.size), (3, h3.size)]) (g.prot) [(6, .ptr (some (h3.size, 0))), (30, .ptr (some (h3.size, 2))), (31, .ptr (some (h2.size, 0))), (36, .int .i64 x5)] H (fun fr => by kernel_rfl) (by kernel_rfl) (fun fr => by kernel_rfl) (fun fr => Steps.call (by kernel_rfl) hr) (fun fr => reOk_again (j := 3) rfl (re_ld (i := 3) (by kernel_rfl) (A.ld1 0 rfl (o := 2) rfl) (sameV_ptr _ _)) (rfl)) ?_
        intro fr H
        refine at_seg [(9, []), (10, [])] [(6, .ptr (some (h3.size, 0))), (36, .int .i64 x5), (38, .ptr (some (h2.size, 1)))] H (noU_all rfl) (fun fr => by kernel_rfl) ?_
        intro fr H
        obtain ⟨h7, hx, A1⟩ := A.st 1 rfl (o := 1) (new := [.int .i64 x5]) (ds := [rowV r2 x7.length, .int .i64 x5]) (Nat.le_of_ble_eq_true rfl) rfl rfl
        replace A : HH g h7 [.obj h3.size (.cells none 2 [vs e_S_tree_Node x6.t_.Nodes, .int .i64 x6.t_.Root, .ptr (some (h2.size, 0)), .int .i64 x6.most_, .bool x6.full_]), .obj h2.size (.cells none 2 [rowV r2 x7.length, .int .i64 x5]), .lst r2 108 (lst e_S_auto_state x7), .obj h.size (.cells none 2 [vs e_S_tree_Node p0.Nodes, .int .i64 p0.Root])] F := A1
        refine at_stepT (v := .tuple []) (h1 := h7) (tch' := [(6, h.size), (3, h3.size)]) (g.prot) [(6, .ptr (some (h3.size, 0)))] H (fun fr => by kernel_rfl) (by kernel_rfl) (fun fr => by kernel_rfl) (fun fr => .of (s_st (by kernel_rfl) rfl hx)) (fun fr => by kernel_rfl) ?_
        intro fr H
        refine at_nil ?_
        show AW cfg 21 g (right (right (right (right (right (bodyC cfg.P 21)))))) fr h7 _
        refine aw_seq (by kernel_rfl) ?_
        refine aw_seq (by kernel_rfl) ?_
        refine aw_reg (id := 8) (n := 4) [(0, []), (1, []), (2, []), (3, [])] (by kernel_rfl) (by kernel_rfl) ?_
        refine at_seg [(0, []), (1, []), (2, [])] [(6, .ptr (some (h3.size, 0))), (41, .ptr (some (h3.size, 4)))] H (noU_all rfl) (fun fr => by kernel_rfl) ?_
        intro fr H
        refine at_step (v := .bool x6.full_) (h1 := h7) [(6, .ptr (some (h3.size, 0))), (42, .bool x6.full_)] H (fun fr => by kernel_rfl) (fun fr => .of (s_ld (by kernel_rfl) (A.ld1 0 rfl (o := 4) rfl))) ?_
        intro fr t H
        refine at_nil ?_
        show AW cfg 21 g (right (left (right (right (right (right (right (bodyC cfg.P 21)))))))) fr h7 _
        rcases iteB_some hm with ⟨hb, hm⟩ | ⟨hb, hm⟩
        · replace H := H.know 42 hb (by kernel_rfl)
          refine aw_true (x := .tmp 42) (by kernel_rfl) H (fun fr => by kernel_rfl) ?_
          refine aw_seq (by kernel_rfl) ?_
          refine aw_reg (id := 9) (n := 2) [(0, []), (1, [])] (by kernel_rfl) (by kernel_rfl) ?_
          refine at_seg [(0, []), (1, [])] [(4, .ptr none), (5, .int .i64 (7 : Int))] H (noU_all rfl) (fun fr => by kernel_rfl) ?_
          intro fr H
          refine at_nil ?_
          show AW cfg 21 g (right (left (right (left (right (right (right (right (right (bodyC cfg.P 21)))))))))) fr h7 _
          refine aw_ret (by kernel_rfl) ?_
          have e0 := Option.some.inj hm
          obtain ⟨y0, z0⟩ := Prod.mk.inj e0
          subst y0
          subst z0
          refine ⟨.inl rfl, .tuple [.ptr none, .int .i64 (7 : Int)], resH H (fun fr => by kernel_rfl), ?_⟩
          replace A : HH g h7 [] F := (HH.dropF A 0)
          refine ⟨.tuple [.ptr none, .int .i64 (7 : Int)], h7, by first | rfl | (simp only [fz4T, fz4P, fzP0, fzPA, fzPR, fzPV, fzPQ, fzPI, fzPB, fzPS, fzPN, fz1Q, fz10, fz1I, fz1B, fz1S, fz1V, fz1N, fzL0, fzL1, Option.map_some] <;> rfl), ?_⟩
          exact Or.inr ⟨rfl, rfl, A⟩
        · replace H := H.know 42 hb (by kernel_rfl)
          refine aw_false (x := .tmp 42) (by kernel_rfl) H (fun fr => by kernel_rfl) ?_
          refine aw_skip (by kernel_rfl) ?_
          show AW cfg 21 g (right (right (right (right (right (right (bodyC cfg.P 21))))))) fr h7 _
          refine aw_seq (by kernel_rfl) ?_
          refine aw_reg (id := 10) (n := 6) [(0, []), (1, []), (2, []), (3, []), (4, []), (5, [])] (by kernel_rfl) (by kernel_rfl) ?_
          refine at_seg [(0, []), (1, []), (2, [])] [(45, .ptr (some (h3.size, 2)))] H (noU_all rfl) (fun fr => by kernel_rfl) ?_
          intro fr H
          refine at_step (v := .ptr (some (h2.size, 0))) (h1 := h7) [(46, .ptr (some (h2.size, 0)))] H (fun fr => by kernel_rfl) (fun fr => .of (s_ld (by kernel_rfl) (A.ld1 0 rfl (o := 2) rfl))) ?_
          intro fr t H
          refine at_seg [(4, []), (5, [])] [(4, .ptr (some (h2.size, 0))), (5, .int .i64 (0 : Int))] H (noU_all rfl) (fun fr => by kernel_rfl) ?_
          intro fr H
          refine at_nil ?_
          show AW cfg 21 g (right (right (right (right (right (right (right (bodyC cfg.P 21)))))))) fr h7 _
          refine aw_ret (by kernel_rfl) ?_
          have e0 := Option.some.inj hm
          obtain ⟨y0, z0⟩ := Prod.mk.inj e0
          subst y0
          subst z0
          refine ⟨.inl rfl, .tuple [.ptr (some (h2.size, 0)), .int .i64 (0 : Int)], resH H (fun fr => by kernel_rfl), ?_⟩
          replace A : HH g h7 [.obj h2.size (.cells none 2 [rowV r2 x7.length, .int .i64 x5]), .lst r2 108 (lst e_S_auto_state x7)] F := (HH.dropF ((A.front 2 rfl).front 2 rfl) 2)
          obtain ⟨h8, A1, hy0⟩ := (A.front 0 rfl).frzB
          replace A : HH g h8 [.lst r2 108 (lst e_S_auto_state x7)] F := A1
          obtain ⟨h9, hz1, A1⟩ := (A.front 0 rfl).frz (n := x7.length) (z := 7) (enc_S_auto_state.lenL _) (by decide)
          replace A : HH g h9 [] F := A1
          have hz0 := hy0 [vs e_S_auto_state x7, .int .i64 x5] h9 (by simp only [fz4T, fz4P, fzP0, fzPA, fzPR, fzPV, fzPQ, fzPI, fzPB, fzPS, fzPN, fz1Q, fz10, fz1I, fz1B, fz1S, fz1V, fz1N, fzL0, fzL1, Option.map_some, e_S_auto_Auto, hz1] <;> rfl)
          refine ⟨.tuple [.vptr [vs e_S_auto_state x7, .int .i64 x5], .int .i64 (0 : Int)], h9, by first | rfl | (simp only [fz4T, fz4P, fzP0, fzPA, fzPR, fzPV, fzPQ, fzPI, fzPB, fzPS, fzPN, fz1Q, fz10, fz1I, fz1B, fz1S, fz1V, fz1N, fzL0, fzL1, Option.map_some, e_S_auto_Auto, hz0, hz1] <;> rfl), ?_⟩
          exact Or.inl ⟨(⟨x7, x5⟩ : S_auto_Auto), rfl, rfl, A⟩
/-! ### (*boulter/auto.Auto).Step -/
noncomputable def M_auto_Auto_Step_sPVOI_L0 (p0 : S_auto_Auto) (p1 : List Int) (p2 : Int) (s : (List Int) × Int) : Option (((List Int) × Int) ⊕ (((List Int)))) :=
  match s with
  | (x1, x2) => iteB (decide (x2 < (p1.length : Int))) (((ixV p1 x2).bind fun x5 => (ixV p0.l_ x5).bind fun x6 => (iteB (x6.kind_ == (1 : Int)) ((M_class_Set_Has x6.set_ p2).bind fun x8 => some x8) (some false) : Option (Bool)).bind fun x7 => iteB x7 (need (okN 8 (x1.length + ([x6.a_] : List Int).length)) <| some (x1 ++ ([x6.a_] : List Int))) (some x1) : Option (((List Int)))).bind fun x4 => some (.inl (x4, IntKind.i64.wrap (x2 + (1 : Int))))) (some (.inr x1))
noncomputable def M_auto_Auto_Step_sPVOI (p0 : S_auto_Auto) (p1 : List Int) (p2 : Int) : Option ((List Int)) :=
 (loop (M_auto_Auto_Step_sPVOI_L0 p0 p1 p2) (([] : List Int), (0 : Int))).bind fun x3 => (M_auto_Auto_close_sPVOBB p0 x3 false false).bind fun x9 => some x9
theorem ok_auto_Auto_Step_sPVOI {g : Gd} {h : AHeap} {F : List Ck} {p0 : S_auto_Auto} {p1 : List Int} {p2 : Int} {rp1 : Option Nat} {q0 : List Int} {av : List AVal} (hm : M_auto_Auto_Step_sPVOI p0 p1 p2 = some q0) (hc : canL (cfg.still 29) av = [.vptr [vs e_S_auto_state p0.l_, .int .i64 p0.first_], rowV rp1 p1.length, .int .u8 p2]) (A : HH g h [.lst rp1 3 (lst (eI .i64) p1)] F) : ∃ v h', Runs cfg g h 29 av v h' ∧ ∃ (rq0 : Option Nat), v = rowV rq0 q0.length ∧ HH g h' [.lst rq0 3 (lst (eI .i64) q0), .lst rp1 3 (lst (eI .i64) p1)] F := by
  refine runsQ1 (n := 42) (rs := [.tmp 6]) (by kernel_rfl) hc (by kernel_rfl) ?_
  clear hc
  unfold M_auto_Auto_Step_sPVOI at hm
  refine start (n := 42) [(0, .vptr [vs e_S_auto_state p0.l_, .int .i64 p0.first_]), (1, rowV rp1 p1.length), (2, .int .u8 p2)] (by kernel_rfl) (by kernel_rfl) ?_
  intro fr H
  refine aw_seq (by kernel_rfl) ?_
  refine aw_reg (id := 0) (n := 1) [(0, [])] (by kernel_rfl) (by kernel_rfl) ?_
  refine at_seg [(0, [])] [(0, .vptr [vs e_S_auto_state p0.l_, .int .i64 p0.first_]), (1, rowV rp1 p1.length), (2, .int .u8 p2)] H (noU_all rfl) (fun fr => by kernel_rfl) ?_
  intro fr H
  refine at_nil ?_
  show AW cfg 29 g (right (bodyC cfg.P 29)) fr h _
  refine aw_seq (by kernel_rfl) ?_
  refine aw_reg (id := 1) (n := 1) [(0, [])] (by kernel_rfl) (by kernel_rfl) ?_
  refine at_seg [(0, [])] [(0, .vptr [vs e_S_auto_state p0.l_, .int .i64 p0.first_]), (1, rowV rp1 p1.length), (2, .int .u8 p2), (7, .slice none 0)] H (noU_all rfl) (fun fr => by kernel_rfl) ?_
  intro fr H
  refine at_nil ?_
  show AW cfg 29 g (right (right (bodyC cfg.P 29))) fr h _
  refine aw_seq (by kernel_rfl) ?_
  refine aw_seq (by kernel_rfl) ?_
  refine aw_reg (id := 2) (n := 3) [(0, []), (1, []), (2, [])] (by kernel_rfl) (by kernel_rfl) ?_
  refine at_seg [(0, []), (1, []), (2, [])] [(0, .vptr [vs e_S_auto_state p0.l_, .int .i64 p0.first_]), (2, .int .u8 p2), (7, .slice none 0), (11, rowV rp1 p1.length), (12, .int .i64 (p1.length : Int)), (13, .int .i64 (0 : Int))] H (noU_all rfl) (fun fr => by kernel_rfl) ?_
  intro fr H
  refine at_nil ?_
  show AW cfg 29 g (right (left (right (right (bodyC cfg.P 29))))) fr h _
  refine aw_block (id := 0) (by kernel_rfl) ?_
  replace A : HH g h [.lst none 3 (lst (eI .i64) ([] : List Int)), .lst rp1 3 (lst (eI .i64) p1)] F := A.nilL 3
  obtain ⟨o1, ho, hm⟩ := bind_some hm
  refine aw_mono (Q' := fun e fr' h' => (∃ (x3 : List Int), e = .exit 0 ∧ x3 = o1 ∧ ∃ (r2 : Option Nat), Has fr' 42 [(0, .vptr [vs e_S_auto_state p0.l_, .int .i64 p0.first_]), (7, rowV r2 x3.length)] ∧ HH g h' [.lst r2 3 (lst (eI .i64) x3), .lst rp1 3 (lst (eI .i64) p1)] F) ∨ False) ?_ ?_
  · refine aw_loop (by kernel_rfl) (fun (s : (List Int) × Int) fr' h' => ∃ (x1 : List Int) (x2 : Int), (x1, x2) = s ∧ ∃ (r1 : Option Nat), Has fr' 42 [(0, .vptr [vs e_S_auto_state p0.l_, .int .i64 p0.first_]), (2, .int .u8 p2), (7, rowV r1 x1.length), (11, rowV rp1 p1.length), (12, .int .i64 (p1.length : Int)), (13, .int .i64 x2)] ∧ HH g h' [.lst r1 3 (lst (eI .i64) x1), .lst rp1 3 (lst (eI .i64) p1)] F) ho ⟨([] : List Int), (0 : Int), rfl, none, H.less _ (fun fr => by kernel_rfl), A⟩ ?_
    clear ho hm H A
    intro s q fr h1 hI hm
    obtain ⟨x1, x2, rfl, r1, H, A⟩ := hI
    unfold M_auto_Auto_Step_sPVOI_L0 at hm
    refine aw_seq (by kernel_rfl) ?_
    refine aw_reg (id := 3) (n := 1) [(0, [])] (by kernel_rfl) (by kernel_rfl) ?_
    refine at_seg [(0, [])] [(0, .vptr [vs e_S_auto_state p0.l_, .int .i64 p0.first_]), (2, .int .u8 p2), (7, rowV r1 x1.length), (11, rowV rp1 p1.length), (12, .int .i64 (p1.length : Int)), (13, .int .i64 x2), (14, .bool (decide (x2 < (p1.length : Int))))] H (noU_all rfl) (fun fr => by kernel_rfl) ?_
    intro fr H
    refine at_nil ?_
    show AW cfg 29 g (right (left (left (right (left (right (right (bodyC cfg.P 29)))))))) fr h1 _
    refine aw_seq (by kernel_rfl) ?_
    rcases iteB_some hm with ⟨hb, hm⟩ | ⟨hb, hm⟩
    · replace H := H.know 14 hb (by kernel_rfl)
      refine aw_true (x := .tmp 14) (by kernel_rfl) H (fun fr => by kernel_rfl) ?_
      refine aw_skip (by kernel_rfl) ?_
      show AW cfg 29 g (right (right (left (left (right (left (right (right (bodyC cfg.P 29))))))))) fr h1 _
      refine aw_seq (by kernel_rfl) ?_
      obtain ⟨o2, ho, hm⟩ := bind_some hm
      refine aw_mono (Q' := fun e fr' h' => (∃ (x4 : List Int), e = .normal ∧ x4 = o2 ∧ ∃ (r3 : Option Nat), Has fr' 42 [(0, .vptr [vs e_S_auto_state p0.l_, .int .i64 p0.first_]), (2, .int .u8 p2), (7, rowV r3 x4.length), (11, rowV rp1 p1.length), (12, .int .i64 (p1.length : Int)), (13, .int .i64 x2)] ∧ HH g h' [.lst r3 3 (lst (eI .i64) x4), .lst rp1 3 (lst (eI .i64) p1)] F) ∨ False) ?_ ?_
      · replace hm := ho
        clear ho
        refine aw_block (id := 1) (by kernel_rfl) ?_
        refine aw_seq (by kernel_rfl) ?_
        refine aw_reg (id := 4) (n := 3) [(0, []), (1, []), (2, [])] (by kernel_rfl) (by kernel_rfl) ?_
        obtain ⟨x5, hx, hm⟩ := bind_some hm
        obtain ⟨i1, er1, _, hx, hq1⟩ := HH.ixO (encI .i64) (by decide) A 1 (xs := p1) rfl hx
        refine at_step (v := .ptr (some (i1, x2.toNat * 1))) (h1 := h1) [(0, .vptr [vs e_S_auto_state p0.l_, .int .i64 p0.first_]), (2, .int .u8 p2), (7, rowV r1 x1.length), (11, rowV rp1 p1.length), (12, .int .i64 (p1.length : Int)), (13, .int .i64 x2), (15, .ptr (some (i1, x2.toNat * 1)))] H (fun fr => by kernel_rfl) (fun fr => .of (s_ixL (s := rowS rp1 p1.length) (by kernel_rfl) hx)) ?_
        intro fr t H
        refine at_step (v := .int .i64 x5) (h1 := h1) [(0, .vptr [vs e_S_auto_state p0.l_, .int .i64 p0.first_]), (2, .int .u8 p2), (7, rowV r1 x1.length), (11, rowV rp1 p1.length), (12, .int .i64 (p1.length : Int)), (13, .int .i64 x2), (16, .int .i64 x5)] H (fun fr => by kernel_rfl) (fun fr => .of (s_ld (by kernel_rfl) (row_ld1 (encI .i64) (HH.row A 1 rfl er1) hq1 (o := 0) rfl))) ?_
        intro fr t H
        refine at_seg [(2, [])] [(0, .vptr [vs e_S_auto_state p0.l_, .int .i64 p0.first_]), (2, .int .u8 p2), (7, rowV r1 x1.length), (9, .int .i64 x5), (11, rowV rp1 p1.length), (12, .int .i64 (p1.length : Int)), (13, .int .i64 x2)] H (noU_all rfl) (fun fr => by kernel_rfl) ?_
        intro fr H
        refine at_nil ?_
        show AW cfg 29 g (right (left (left (right (right (left (left (right (left (right (right (bodyC cfg.P 29)))))))))))) fr h1 _
        refine aw_seq (by kernel_rfl) ?_
        refine aw_reg (id := 5) (n := 9) [(0, []), (1, []), (2, []), (3, []), (4, []), (5, []), (6, []), (7, []), (8, [])] (by kernel_rfl) (by kernel_rfl) ?_
        refine at_seg [(0, []), (1, []), (2, [])] [(0, .vptr [vs e_S_auto_state p0.l_, .int .i64 p0.first_]), (2, .int .u8 p2), (7, rowV r1 x1.length), (9, .int .i64 x5), (11, rowV rp1 p1.length), (12, .int .i64 (p1.length : Int)), (13, .int .i64 x2), (19, .vptr [vs e_S_auto_state p0.l_, .int .i64 p0.first_])] H (noU_all rfl) (fun fr => by kernel_rfl) ?_
        intro fr H
        refine at_step (v := vs e_S_auto_state p0.l_) (h1 := h1) [(0, .vptr [vs e_S_auto_state p0.l_, .int .i64 p0.first_]), (2, .int .u8 p2), (7, rowV r1 x1.length), (9, .int .i64 x5), (11, rowV rp1 p1.length), (12, .int .i64 (p1.length : Int)), (13, .int .i64 x2), (20, vs e_S_auto_state p0.l_)] H (fun fr => by kernel_rfl) (fun fr => .of (s_lv (by kernel_rfl))) ?_
        intro fr t H
        refine at_seg [(4, [])] [(0, .vptr [vs e_S_auto_state p0.l_, .int .i64 p0.first_]), (2, .int .u8 p2), (7, rowV r1 x1.length), (11, rowV rp1 p1.length), (12, .int .i64 (p1.length : Int)), (13, .int .i64 x2), (20, vs e_S_auto_state p0.l_), (21, .int .i64 x5)] H (noU_all rfl) (fun fr => by kernel_rfl) ?_
        intro fr H
        obtain ⟨x6, hx, hm⟩ := bind_some hm
        refine at_step (v := .vptr (e_S_auto_state x6)) (h1 := h1) [(0, .vptr [vs e_S_auto_state p0.l_, .int .i64 p0.first_]), (2, .int .u8 p2), (7, rowV r1 x1.length), (11, rowV rp1 p1.length), (12, .int .i64 (p1.length : Int)), (13, .int .i64 x2), (22, .vptr (e_S_auto_state x6))] H (fun fr => by kernel_rfl) (fun fr => .of (s_ixV (e := e_S_auto_state) (x := x6) enc_S_auto_state (by decide) (by kernel_rfl) hx)) ?_
        intro fr t H
        refine at_step (v := .agg (e_S_auto_state x6)) (h1 := h1) [(0, .vptr [vs e_S_auto_state p0.l_, .int .i64 p0.first_]), (2, .int .u8 p2), (7, rowV r1 x1.length), (11, rowV rp1 p1.length), (12, .int .i64 (p1.length : Int)), (13, .int .i64 x2), (23, .agg (e_S_auto_state x6))] H (fun fr => by kernel_rfl) (fun fr => .of (s_lv (by kernel_rfl))) ?_
        intro fr t H
        obtain ⟨h2, e1⟩ : ∃ x, x = h1.push (.cells none 2 [.int .i64 (0 : Int), .int .i64 (0 : Int), .int .i64 (0 : Int), .int .u64 (0 : Int), .int .u64 (0 : Int), .int .u64 (0 : Int), .int .u64 (0 : Int)]) := ⟨_, rfl⟩
        replace A := (A.push _).to e1
        refine at_step (v := .ptr (some (h1.size, 0))) (h1 := h2) [(0, .vptr [vs e_S_auto_state p0.l_, .int .i64 p0.first_]), (2, .int .u8 p2), (7, rowV r1 x1.length), (10, .ptr (some (h1.size, 0))), (11, rowV rp1 p1.length), (12, .int .i64 (p1.length : Int)), (13, .int .i64 x2), (23, .agg (e_S_auto_state x6))] H (fun fr => by kernel_rfl) (fun fr => .of (s_n' (by kernel_rfl) (congrArg some e1.symm))) ?_
        intro fr t H
        obtain ⟨h3, hx, A1⟩ := A.st 0 rfl (o := 0) (new := [.int .i64 x6.kind_, .int .i64 x6.a_, .int .i64 x6.b_, .int .u64 x6.set_.w0, .int .u64 x6.set_.w1, .int .u64 x6.set_.w2, .int .u64 x6.set_.w3]) (ds := [.int .i64 x6.kind_, .int .i64 x6.a_, .int .i64 x6.b_, .int .u64 x6.set_.w0, .int .u64 x6.set_.w1, .int .u64 x6.set_.w2, .int .u64 x6.set_.w3]) (Nat.le_of_ble_eq_true rfl) rfl rfl
        replace A : HH g h3 [.obj h1.size (.cells none 2 (e_S_auto_state x6)), .lst r1 3 (lst (eI .i64) x1), .lst rp1 3 (lst (eI .i64) p1)] F := A1
        refine at_step (v := .tuple []) (h1 := h3) [(0, .vptr [vs e_S_auto_state p0.l_, .int .i64 p0.first_]), (2, .int .u8 p2), (7, rowV r1 x1.length), (10, .ptr (some (h1.size, 0))), (11, rowV rp1 p1.length), (12, .int .i64 (p1.length : Int)), (13, .int .i64 x2)] H (fun fr => by kernel_rfl) (fun fr => .of (s_stG (by kernel_rfl) (stG_st hx rfl))) ?_
        intro fr t H
        refine at_nil ?_
        show AW cfg 29 g (right (right (left (left (right (right (left (left (right (left (right (right (bodyC cfg.P 29))))))))))))) fr h3 _
        refine aw_seq (by kernel_rfl) ?_
        refine aw_reg (id := 6) (n := 9) [(0, []), (1, []), (2, []), (3, []), (4, []), (5, []), (6, []), (7, []), (8, [])] (by kernel_rfl) (by kernel_rfl) ?_
        refine at_seg [(0, [])] [(0, .vptr [vs e_S_auto_state p0.l_, .int .i64 p0.first_]), (2, .int .u8 p2), (7, rowV r1 x1.length), (10, .ptr (some (h1.size, 0))), (11, rowV rp1 p1.length), (12, .int .i64 (p1.length : Int)), (13, .int .i64 x2), (24, .ptr (some (h1.size, 0)))] H (noU_all rfl) (fun fr => by kernel_rfl) ?_
        intro fr H
        refine at_step (v := .int .i64 x6.kind_) (h1 := h3) [(0, .vptr [vs e_S_auto_state p0.l_, .int .i64 p0.first_]), (2, .int .u8 p2), (7, rowV r1 x1.length), (10, .ptr (some (h1.size, 0))), (11, rowV rp1 p1.length), (12, .int .i64 (p1.length : Int)), (13, .int .i64 x2), (25, .int .i64 x6.kind_)] H (fun fr => by kernel_rfl) (fun fr => .of (s_ld (by kernel_rfl) (A.ld1 0 rfl (o := 0) rfl))) ?_
        intro fr t H
        refine at_seg [(2, []), (3, [])] [(0, .vptr [vs e_S_auto_state p0.l_, .int .i64 p0.first_]), (2, .int .u8 p2), (7, rowV r1 x1.length), (10, .ptr (some (h1.size, 0))), (11, rowV rp1 p1.length), (12, .int .i64 (p1.length : Int)), (13, .int .i64 x2), (27, .bool (x6.kind_ == (1 : Int)))] H (noU_all rfl) (fun fr => by kernel_rfl) ?_
        intro fr H
        obtain ⟨x7, ho, hm⟩ := bind_some hm
        refine at_cut [(4, []), (5, []), (6, []), (7, []), (8, [])] (fun fr' h' => Has fr' 42 [(0, .vptr [vs e_S_auto_state p0.l_, .int .i64 p0.first_]), (2, .int .u8 p2), (7, rowV r1 x1.length), (10, .ptr (some (h1.size, 0))), (11, rowV rp1 p1.length), (12, .int .i64 (p1.length : Int)), (13, .int .i64 x2), (32, .bool x7)] ∧ HH g h' [.obj h1.size (.cells none 2 (e_S_auto_state x6)), .lst r1 3 (lst (eI .i64) x1), .lst rp1 3 (lst (eI .i64) p1)] F) ?_ ?_
        · rcases iteB_some ho with ⟨hb, hm⟩ | ⟨hb, hm⟩
          · replace H := H.know 27 hb (by kernel_rfl)
            refine at_seg [(4, [])] [(0, .vptr [vs e_S_auto_state p0.l_, .int .i64 p0.first_]), (2, .int .u8 p2), (7, rowV r1 x1.length), (10, .ptr (some (h1.size, 0))), (11, rowV rp1 p1.length), (12, .int .i64 (p1.length : Int)), (13, .int .i64 x2), (27, .bool true), (28, .ptr (some (h1.size, 3)))] H (noU_all rfl) (fun fr => by kernel_rfl) ?_
            intro fr H
            refine at_step (v := .agg [.int .u64 x6.set_.w0, .int .u64 x6.set_.w1, .int .u64 x6.set_.w2, .int .u64 x6.set_.w3]) (h1 := h3) [(0, .vptr [vs e_S_auto_state p0.l_, .int .i64 p0.first_]), (2, .int .u8 p2), (7, rowV r1 x1.length), (10, .ptr (some (h1.size, 0))), (11, rowV rp1 p1.length), (12, .int .i64 (p1.length : Int)), (13, .int .i64 x2), (27, .bool true), (29, .agg [.int .u64 x6.set_.w0, .int .u64 x6.set_.w1, .int .u64 x6.set_.w2, .int .u64 x6.set_.w3])] H (fun fr => by kernel_rfl) (fun fr => .of (s_ldA (by kernel_rfl) (A.ldA 0 rfl (o := 3) (n := 4) ⟨Nat.le_of_ble_eq_true rfl, rfl⟩))) ?_
            intro fr t H
            refine at_seg [(6, [])] [(0, .vptr [vs e_S_auto_state p0.l_, .int .i64 p0.first_]), (2, .int .u8 p2), (7, rowV r1 x1.length), (10, .ptr (some (h1.size, 0))), (11, rowV rp1 p1.length), (12, .int .i64 (p1.length : Int)), (13, .int .i64 x2), (27, .bool true), (29, .agg [.int .u64 x6.set_.w0, .int .u64 x6.set_.w1, .int .u64 x6.set_.w2, .int .u64 x6.set_.w3]), (30, .int .u8 p2)] H (noU_all rfl) (fun fr => by kernel_rfl) ?_
            intro fr H
            have A1 := A.cut 0
            obtain ⟨x8, hx, hm⟩ := bind_some hm
            obtain ⟨v1, h5, hr, rfl, A1⟩ := ok_class_Set_Has (av := [.agg [.int .u64 x6.set_.w0, .int .u64 x6.set_.w1, .int .u64 x6.set_.w2, .int .u64 x6.set_.w3], .int .u8 p2]) hx (by kernel_rfl) A1
            replace A : HH g h5 [.obj h1.size (.cells none 2 (e_S_auto_state x6)), .lst r1 3 (lst (eI .i64) x1), .lst rp1 3 (lst (eI .i64) p1)] F := A.glue0 (n := 0) A1
            refine at_step (v := .bool x8) (h1 := h5) [(0, .vptr [vs e_S_auto_state p0.l_, .int .i64 p0.first_]), (2, .int .u8 p2), (7, rowV r1 x1.length), (10, .ptr (some (h1.size, 0))), (11, rowV rp1 p1.length), (12, .int .i64 (p1.length : Int)), (13, .int .i64 x2), (27, .bool true), (31, .bool x8)] H (fun fr => by kernel_rfl) (fun fr => Steps.call (by kernel_rfl) hr) ?_
            intro fr t H
            refine at_seg [(8, [])] [(0, .vptr [vs e_S_auto_state p0.l_, .int .i64 p0.first_]), (2, .int .u8 p2), (7, rowV r1 x1.length), (10, .ptr (some (h1.size, 0))), (11, rowV rp1 p1.length), (12, .int .i64 (p1.length : Int)), (13, .int .i64 x2), (32, .bool x8)] H (noU_all rfl) (fun fr => by kernel_rfl) ?_
            intro fr H
            have e1 := Option.some.inj hm
            subst e1
            exact at_nil ⟨H.less _ (fun fr => by kernel_rfl), A⟩
          · replace H := H.know 27 hb (by kernel_rfl)
            refine at_seg [(4, []), (5, []), (6, []), (7, []), (8, [])] [(0, .vptr [vs e_S_auto_state p0.l_, .int .i64 p0.first_]), (2, .int .u8 p2), (7, rowV r1 x1.length), (10, .ptr (some (h1.size, 0))), (11, rowV rp1 p1.length), (12, .int .i64 (p1.length : Int)), (13, .int .i64 x2), (32, .bool false)] H (noU_all rfl) (fun fr => by kernel_rfl) ?_
            intro fr H
            have e1 := Option.some.inj hm
            subst e1
            exact at_nil ⟨H.less _ (fun fr => by kernel_rfl), A⟩
        · clear A
          intro t fr h4 hK
          obtain ⟨H, A⟩ := hK
          refine at_nil ?_
          show AW cfg 29 g (right (right (right (left (left (right (right (left (left (right (left (right (right (bodyC cfg.P 29)))))))))))))) fr h4 _
          rcases iteB_some hm with ⟨hb, hm⟩ | ⟨hb, hm⟩
          · replace H := H.know 32 hb (by kernel_rfl)
            refine aw_true (x := .tmp 32) (by kernel_rfl) H (fun fr => by kernel_rfl) ?_
            refine aw_reg (id := 7) (n := 6) [(0, []), (1, []), (2, []), (3, []), (4, []), (5, [])] (by kernel_rfl) (by kernel_rfl) ?_
            refine at_seg [(0, []), (1, [])] [(0, .vptr [vs e_S_auto_state p0.l_, .int .i64 p0.first_]), (2, .int .u8 p2), (11, rowV rp1 p1.length), (12, .int .i64 (p1.length : Int)), (13, .int .i64 x2), (33, rowV r1 x1.length), (34, .ptr (some (h1.size, 1)))] H (noU_all rfl) (fun fr => by kernel_rfl) ?_
            intro fr H
            refine at_step (v := .int .i64 x6.a_) (h1 := h4) [(0, .vptr [vs e_S_auto_state p0.l_, .int .i64 p0.first_]), (2, .int .u8 p2), (11, rowV rp1 p1.length), (12, .int .i64 (p1.length : Int)), (13, .int .i64 x2), (33, rowV r1 x1.length), (35, .int .i64 x6.a_)] H (fun fr => by kernel_rfl) (fun fr => .of (s_ld (by kernel_rfl) (A.ld1 0 rfl (o := 1) rfl))) ?_
            intro fr t H
            obtain ⟨h6, e2⟩ : ∃ x, x = h4.push (.cells (some 3) 2 [.int .i64 x6.a_]) := ⟨_, rfl⟩
            replace A := (A.pushL _ _).to e2
            refine at_step (v := rowV (some h4.size) (([x6.a_] : List Int).length)) (h1 := h6) [(0, .vptr [vs e_S_auto_state p0.l_, .int .i64 p0.first_]), (2, .int .u8 p2), (11, rowV rp1 p1.length), (12, .int .i64 (p1.length : Int)), (13, .int .i64 x2), (33, rowV r1 x1.length), (36, rowV (some h4.size) (([x6.a_] : List Int).length))] H (fun fr => by kernel_rfl) (fun fr => .of (s_n' (by kernel_rfl) (congrArg some e2.symm))) ?_
            intro fr t H
            obtain ⟨hb, hm⟩ := need_some hm
            obtain ⟨r4, h7, hx, A1⟩ := HH.appO (encI .i64) (by decide) A 2 (xs := x1) (ys := ([x6.a_] : List Int)) rfl (row_first A 0 rfl (n := ([x6.a_] : List Int).length) (z := 1) rfl (by decide)) rfl rfl hb
            replace A : HH g h7 [.lst (some h4.size) 3 ([.int .i64 x6.a_]), .obj h1.size (.cells none 2 (e_S_auto_state x6)), .lst r4 3 (lst (eI .i64) (x1 ++ ([x6.a_] : List Int))), .lst rp1 3 (lst (eI .i64) p1)] F := A1
            replace A : HH g h7 [.obj h1.size (.cells none 2 (e_S_auto_state x6)), .lst r4 3 (lst (eI .i64) (x1 ++ ([x6.a_] : List Int))), .lst rp1 3 (lst (eI .i64) p1)] F := (HH.dropF (((A.front 3 rfl).front 3 rfl).front 3 rfl) 3)
            refine at_step (v := rowV r4 ((x1 ++ ([x6.a_] : List Int)).length)) (h1 := h7) [(0, .vptr [vs e_S_auto_state p0.l_, .int .i64 p0.first_]), (2, .int .u8 p2), (11, rowV rp1 p1.length), (12, .int .i64 (p1.length : Int)), (13, .int .i64 x2), (37, rowV r4 ((x1 ++ ([x6.a_] : List Int)).length))] H (fun fr => by kernel_rfl) (fun fr => .of (s_app (s := rowS r1 x1.length) (by kernel_rfl) hx)) ?_
            intro fr t H
            refine at_seg [(5, [])] [(0, .vptr [vs e_S_auto_state p0.l_, .int .i64 p0.first_]), (2, .int .u8 p2), (7, rowV r4 ((x1 ++ ([x6.a_] : List Int)).length)), (11, rowV rp1 p1.length), (12, .int .i64 (p1.length : Int)), (13, .int .i64 x2)] H (noU_all rfl) (fun fr => by kernel_rfl) ?_
            intro fr H
            refine at_nil ?_
            replace A : HH g h7 [.lst r4 3 (lst (eI .i64) (x1 ++ ([x6.a_] : List Int))), .lst rp1 3 (lst (eI .i64) p1)] F := (HH.dropF ((A.front 2 rfl).front 2 rfl) 2)
            exact Or.inl ⟨(x1 ++ ([x6.a_] : List Int)), rfl, Option.some.inj hm, r4, H.less _ (fun fr => by kernel_rfl), A⟩
          · replace H := H.know 32 hb (by kernel_rfl)
            refine aw_false (x := .tmp 32) (by kernel_rfl) H (fun fr => by kernel_rfl) ?_
            refine aw_skip (by kernel_rfl) ?_
            replace A : HH g h4 [.lst r1 3 (lst (eI .i64) x1), .lst rp1 3 (lst (eI .i64) p1)] F := (HH.dropF ((A.front 2 rfl).front 2 rfl) 2)
            exact Or.inl ⟨x1, rfl, Option.some.inj hm, r1, H.less _ (fun fr => by kernel_rfl), A⟩
      · clear ho
        clear A
        intro e fr h8 hQ
        rcases hQ with ⟨x4, rfl, rfl, r3, H, A⟩ | hF
        · skip
          show AW cfg 29 g (right (right (right (left (left (right (left (right (right (bodyC cfg.P 29)))))))))) fr h8 _
          refine aw_reg (id := 8) (n := 2) [(0, []), (1, [])] (by kernel_rfl) (by kernel_rfl) ?_
          refine at_seg [(0, []), (1, [])] [(0, .vptr [vs e_S_auto_state p0.l_, .int .i64 p0.first_]), (2, .int .u8 p2), (7, rowV r3 x4.length), (11, rowV rp1 p1.length), (12, .int .i64 (p1.length : Int)), (13, .int .i64 (IntKind.i64.wrap (x2 + (1 : Int))))] H (noU_all rfl) (fun fr => by kernel_rfl) ?_
          intro fr H
          refine at_nil ?_
          exact Exists.intro (x4, IntKind.i64.wrap (x2 + (1 : Int))) (And.intro (Option.some.inj hm).symm ⟨x4, IntKind.i64.wrap (x2 + (1 : Int)), rfl, r3, H.less _ (fun fr => by kernel_rfl), A⟩)
        · exact hF.elim
    · replace H := H.know 14 hb (by kernel_rfl)
      refine aw_false (x := .tmp 14) (by kernel_rfl) H (fun fr => by kernel_rfl) ?_
      refine aw_exit (i := 0) (by kernel_rfl) ?_
      exact Exists.intro _ (And.intro (Option.some.inj hm).symm (fun e => Or.inl ⟨x1, rfl, e, r1, H.less _ (fun fr => by kernel_rfl), A⟩))
  · clear ho
    clear A
    intro e fr h9 hQ
    rcases hQ with ⟨x3, rfl, rfl, r2, H, A⟩ | hF
    · skip
      show AW cfg 29 g (right (right (right (bodyC cfg.P 29)))) fr h9 _
      refine aw_seq (by kernel_rfl) ?_
      refine aw_reg (id := 9) (n := 4) [(0, []), (1, []), (2, []), (3, [])] (by kernel_rfl) (by kernel_rfl) ?_
      refine at_seg [(0, []), (1, [])] [(39, .vptr [vs e_S_auto_state p0.l_, .int .i64 p0.first_]), (40, rowV r2 x3.length)] H (noU_all rfl) (fun fr => by kernel_rfl) ?_
      intro fr H
      have A1 := A.cut 1
      obtain ⟨x9, hx, hm⟩ := bind_some hm
      obtain ⟨v1, h10, hr, rqw2, rfl, A1⟩ := ok_auto_Auto_close_sPVOBB (av := [.vptr [vs e_S_auto_state p0.l_, .int .i64 p0.first_], rowV r2 x3.length, .bool false, .bool false]) hx (by kernel_rfl) A1
      replace A : HH g h10 [.lst rqw2 3 (lst (eI .i64) x9), .lst r2 3 (lst (eI .i64) x3), .lst rp1 3 (lst (eI .i64) p1)] F := A.glue0 (n := 1) A1
      refine at_step (v := rowV rqw2 x9.length) (h1 := h10) [(41, rowV rqw2 x9.length)] H (fun fr => by kernel_rfl) (fun fr => Steps.call (by kernel_rfl) hr) ?_
      intro fr t H
      refine at_seg [(3, [])] [(6, rowV rqw2 x9.length)] H (noU_all rfl) (fun fr => by kernel_rfl) ?_
      intro fr H
      refine at_nil ?_
      show AW cfg 29 g (right (right (right (right (bodyC cfg.P 29))))) fr h10 _
      refine aw_ret (by kernel_rfl) ?_
      have e1 := Option.some.inj hm
      subst e1
      refine ⟨.inl rfl, rowV rqw2 x9.length, resH H (fun fr => by kernel_rfl), ?_⟩
      replace A : HH g h10 [.lst rqw2 3 (lst (eI .i64) x9), .lst rp1 3 (lst (eI .i64) p1)] F := (HH.dropF ((A.front 2 rfl).front 1 rfl) 2)
      exact ⟨rqw2, rfl, A⟩
    · exact hF.elim
/-! ### boulter/boulterlaw20.AutoApart -/
noncomputable def M_boulterlaw20_AutoApart_L0 (p1 : List UInt8) (p2 : Int) (p3 : Int) (x4 : S_auto_Auto) (s : (List Int) × Int) : Option (((List Int) × Int) ⊕ ((Unit) ⊕ (Bool))) :=
  match s with
  | (x8, x9) => iteB (decide (x9 < (p1.length : Int))) ((M_auto_Auto_Apart x4 p2 p3).bind fun x11 => (iteB (!x11) ((M_auto_Auto_Step_sPVOI x4 x8 p2).bind fun x13 => (M_auto_Auto_Step_sPVOI x4 x8 p3).bind fun x14 => (M_boulterref16_Same_sOO x13 x14).bind fun x15 => some (!x15)) (some false) : Option (Bool)).bind fun x12 => iteB x12 (some (.inr (.inr false))) ((ixS p1 x9).bind fun x16 => (M_auto_Auto_Step_sPVOI x4 x8 x16).bind fun x17 => some (.inl (x17, IntKind.i64.wrap (x9 + (1 : Int)))))) (some (.inr (.inl ())))
noncomputable def M_boulterlaw20_AutoApart_L1 (p0 : S_tree_Tree) (p2 : Int) (p3 : Int) (s : Bool × Int) : Option ((Bool × Int) ⊕ ((Bool))) :=
  match s with
  | (x18, x19) => iteB (decide (x19 < (p0.Nodes.length : Int))) ((ixV p0.Nodes x19).bind fun x21 => (iteB x18 (some true) ((iteB (x21.Kind == (1 : Int)) ((M_class_Set_Has x21.Set p2).bind fun x24 => (M_class_Set_Has x21.Set p3).bind fun x25 => some (!(x24 == x25))) (some false) : Option (Bool)).bind fun x23 => some x23) : Option (Bool)).bind fun x22 => some (.inl (x22, IntKind.i64.wrap (x19 + (1 : Int))))) (some (.inr x18))
noncomputable def M_boulterlaw20_AutoApart (p0 : S_tree_Tree) (p1 : List UInt8) (p2 : Int) (p3 : Int) : Option (Bool) :=
 (M_boulterlaw18_Plain p0).bind fun x1 => (M_boulterref18_Small x1).bind fun x2 => iteB ((!x2) || (decide ((p1.length : Int) > (20 : Int)))) ((M_boulterlaw20_awake).bind fun x3 => some x3) ((M_auto_Build p0 (4096 : Int)).bind fun (w4, x5) => (match w4 with | some x4 => iteB (x5 != (0 : Int)) ((M_boulterlaw20_awake).bind fun x6 => some x6) ((M_auto_Auto_Start x4 true).bind fun x7 => (loop (M_boulterlaw20_AutoApart_L0 p1 p2 p3 x4) (x7, (0 : Int))).bind fun o1 => (match o1 with | .inl _ => (loop (M_boulterlaw20_AutoApart_L1 p0 p2 p3) (false, (0 : Int))).bind fun x20 => (iteB x20 (some true) ((M_auto_Auto_Apart x4 p2 p3).bind fun x27 => some (!x27)) : Option (Bool)).bind fun x26 => (iteB x26 ((M_boulterlaw20_awake).bind fun x29 => some x29) (some false) : Option (Bool)).bind fun x28 => some x28 | .inr x10 => some x10)) | none => iteB (x5 != (0 : Int)) ((M_boulterlaw20_awake).bind fun x30 => some x30) (some false)))
theorem ok_boulterlaw20_AutoApart {g : Gd} {h : AHeap} {F : List Ck} {p0 : S_tree_Tree} {p1 : List UInt8} {p2 : Int} {p3 : Int} {q0 : Bool} {av : List AVal} (hm : M_boulterlaw20_AutoApart p0 p1 p2 p3 = some q0) (hc : canL (cfg.still 7) av = [.agg [vs e_S_tree_Node p0.Nodes, .int .i64 p0.Root], .str p1, .int .u8 p2, .int .u8 p3]) (A : HH g h [] F) : ∃ v h', Runs cfg g h 7 av v h' ∧ v = .bool q0 ∧ HH g h' [] F := by
  refine runsQ1 (n := 103) (rs := [.tmp 8]) (by kernel_rfl) hc (by kernel_rfl) ?_
  clear hc
  unfold M_boulterlaw20_AutoApart at hm
  refine start (n := 103) [(0, .agg [vs e_S_tree_Node p0.Nodes, .int .i64 p0.Root]), (1, .str p1), (2, .int .u8 p2), (3, .int .u8 p3)] (by kernel_rfl) (by kernel_rfl) ?_
  intro fr H
  refine aw_seq (by kernel_rfl) ?_
  refine aw_reg (id := 0) (n := 2) [(0, []), (1, [])] (by kernel_rfl) (by kernel_rfl) ?_
  obtain ⟨h1, e1⟩ : ∃ x, x = h.push (.cells none 2 [vs e_S_tree_Node p0.Nodes, .int .i64 p0.Root]) := ⟨_, rfl⟩
  replace A := (A.push _).to e1
  refine at_step (v := .ptr (some (h.size, 0))) (h1 := h1) [(1, .str p1), (2, .int .u8 p2), (3, .int .u8 p3), (4, .ptr (some (h.size, 0)))] H (fun fr => by kernel_rfl) (fun fr => .of (s_n' (by kernel_rfl) (congrArg some e1.symm))) ?_
  intro fr t H
  refine at_seg [(1, [])] [(1, .str p1), (2, .int .u8 p2), (3, .int .u8 p3), (4, .ptr (some (h.size, 0)))] H (noU_all rfl) (fun fr => by kernel_rfl) ?_
  intro fr H
  refine at_nil ?_
  show AW cfg 7 g (right (bodyC cfg.P 7)) fr h1 _
  refine aw_seq (by kernel_rfl) ?_
  refine aw_seq (by kernel_rfl) ?_
  refine aw_reg (id := 1) (n := 9) [(0, []), (1, []), (2, []), (3, []), (4, []), (5, []), (6, []), (7, []), (8, [])] (by kernel_rfl) (by kernel_rfl) ?_
  refine at_step (v := .agg [vs e_S_tree_Node p0.Nodes, .int .i64 p0.Root]) (h1 := h1) [(1, .str p1), (2, .int .u8 p2), (3, .int .u8 p3), (4, .ptr (some (h.size, 0))), (16, .agg [vs e_S_tree_Node p0.Nodes, .int .i64 p0.Root])] H (fun fr => by kernel_rfl) (fun fr => .of (s_ldA (by kernel_rfl) (A.ldA 0 rfl (o := 0) (n := 2) ⟨Nat.le_of_ble_eq_true rfl, rfl⟩))) ?_
  intro fr t H
  have A1 := A.cut 0
  obtain ⟨x1, hx, hm⟩ := bind_some hm
  obtain ⟨v1, h2, hr, rfl, A1⟩ := ok_boulterlaw18_Plain (av := [.agg [vs e_S_tree_Node p0.Nodes, .int .i64 p0.Root]]) hx (by kernel_rfl) A1
  replace A : HH g h2 [.obj h.size (.cells none 2 [vs e_S_tree_Node p0.Nodes, .int .i64 p0.Root])] F := A.glue0 (n := 0) A1
  refine at_step (v := .agg [vs e_S_boulterref18_Node x1.L, .int .i64 x1.Root]) (h1 := h2) [(1, .str p1), (2, .int .u8 p2), (3, .int .u8 p3), (4, .ptr (some (h.size, 0))), (17, .agg [vs e_S_boulterref18_Node x1.L, .int .i64 x1.Root])] H (fun fr => by kernel_rfl) (fun fr => Steps.call (by kernel_rfl) hr) ?_
  intro fr t H
  have A1 := A.cut 0
  obtain ⟨x2, hx, hm⟩ := bind_some hm
  obtain ⟨v1, h3, hr, rfl, A1⟩ := ok_boulterref18_Small (av := [.agg [vs e_S_boulterref18_Node x1.L, .int .i64 x1.Root]]) hx (by kernel_rfl) A1
  replace A : HH g h3 [.obj h.size (.cells none 2 [vs e_S_tree_Node p0.Nodes, .int .i64 p0.Root])] F := A.glue0 (n := 0) A1
  refine at_step (v := .bool x2) (h1 := h3) [(1, .str p1), (2, .int .u8 p2), (3, .int .u8 p3), (4, .ptr (some (h.size, 0))), (18, .bool x2)] H (fun fr => by kernel_rfl) (fun fr => Steps.call (by kernel_rfl) hr) ?_
  intro fr t H
  refine at_seg [(3, []), (4, [])] [(1, .str p1), (2, .int .u8 p2), (3, .int .u8 p3), (4, .ptr (some (h.size, 0))), (20, .bool (!x2))] H (noU_all rfl) (fun fr => by kernel_rfl) ?_
  intro fr H
  refine at_cut [(5, []), (6, []), (7, []), (8, [])] (fun fr' h' => h3 = h' ∧ Has fr' 103 [(1, .str p1), (2, .int .u8 p2), (3, .int .u8 p3), (4, .ptr (some (h.size, 0))), (24, .bool ((!x2) || (decide ((p1.length : Int) > (20 : Int)))))]) ?_ ?_
  · cases hb : (!x2 : Bool) with
    | true =>
      replace H := H.know 20 hb (by kernel_rfl)
      refine at_seg [(5, []), (6, []), (7, []), (8, [])] [(1, .str p1), (2, .int .u8 p2), (3, .int .u8 p3), (4, .ptr (some (h.size, 0))), (24, .bool true)] H (noU_all rfl) (fun fr => by kernel_rfl) ?_
      intro fr H
      exact at_nil ⟨rfl, by first | exact H.less _ (fun fr => by rfl) | exact H.less _ (fun fr => by rw [hb]; rfl)⟩
    | false =>
      replace H := H.know 20 hb (by kernel_rfl)
      refine at_seg [(5, []), (6, []), (7, []), (8, [])] [(1, .str p1), (2, .int .u8 p2), (3, .int .u8 p3), (4, .ptr (some (h.size, 0))), (24, .bool (decide ((p1.length : Int) > (20 : Int))))] H (noU_all rfl) (fun fr => by kernel_rfl) ?_
      intro fr H
      exact at_nil ⟨rfl, by first | exact H.less _ (fun fr => by rfl) | exact H.less _ (fun fr => by rw [hb]; rfl)⟩
  · intro t fr h' hK
    obtain ⟨e, H⟩ := hK
    subst e
    refine at_nil ?_
    show AW cfg 7 g (right (left (right (bodyC cfg.P 7)))) fr h3 _
    rcases iteB_some hm with ⟨hb, hm⟩ | ⟨hb, hm⟩
    · replace H := H.know 24 hb (by kernel_rfl)
      refine aw_true (x := .tmp 24) (by kernel_rfl) H (fun fr => by kernel_rfl) ?_
      refine aw_seq (by kernel_rfl) ?_
      refine aw_reg (id := 2) (n := 2) [(0, []), (1, [])] (by kernel_rfl) (by kernel_rfl) ?_
      obtain ⟨x3, hx, hm⟩ := bind_some hm
      refine at_step (v := .bool x3) (h1 := h3) [(25, .bool x3)] H (fun fr => by kernel_rfl) (fun fr => Steps.call (by kernel_rfl) (ok_boulterlaw20_awake hx)) ?_
      intro fr t H
      refine at_seg [(1, [])] [(8, .bool x3)] H (noU_all rfl) (fun fr => by kernel_rfl) ?_
      intro fr H
      refine at_nil ?_
      show AW cfg 7 g (right (left (right (left (right (bodyC cfg.P 7)))))) fr h3 _
      refine aw_ret (by kernel_rfl) ?_
      have e1 := Option.some.inj hm
      subst e1
      refine ⟨.inl rfl, .bool x3, resH H (fun fr => by kernel_rfl), ?_⟩
      replace A : HH g h3 [] F := (HH.dropF A 0)
      exact ⟨rfl, A⟩
    · replace H := H.know 24 hb (by kernel_rfl)
      refine aw_false (x := .tmp 24) (by kernel_rfl) H (fun fr => by kernel_rfl) ?_
      refine aw_skip (by kernel_rfl) ?_
      show AW cfg 7 g (right (right (bodyC cfg.P 7))) fr h3 _
      refine aw_seq (by kernel_rfl) ?_
      refine aw_reg (id := 3) (n := 7) [(0, []), (1, []), (2, []), (3, []), (4, []), (5, []), (6, [])] (by kernel_rfl) (by kernel_rfl) ?_
      refine at_step (v := .agg [vs e_S_tree_Node p0.Nodes, .int .i64 p0.Root]) (h1 := h3) [(1, .str p1), (2, .int .u8 p2), (3, .int .u8 p3), (4, .ptr (some (h.size, 0))), (27, .agg [vs e_S_tree_Node p0.Nodes, .int .i64 p0.Root])] H (fun fr => by kernel_rfl) (fun fr => .of (s_ldA (by kernel_rfl) (A.ldA 0 rfl (o := 0) (n := 2) ⟨Nat.le_of_ble_eq_true rfl, rfl⟩))) ?_
      intro fr t H
      have A1 := A.cut 0
      obtain ⟨⟨w4, x5⟩, hx, hm⟩ := bind_some hm
      obtain ⟨v1, h4, hr, hc⟩ := ok_auto_Build (av := [.agg [vs e_S_tree_Node p0.Nodes, .int .i64 p0.Root], .int .i64 (4096 : Int)]) hx (by kernel_rfl) A1
      rcases hc with ⟨x4, rfl, rfl, A1⟩ | ⟨rfl, rfl, A1⟩
      · skip
        replace A : HH g h4 [.obj h.size (.cells none 2 [vs e_S_tree_Node p0.Nodes, .int .i64 p0.Root])] F := A.glue0 (n := 0) A1
        refine at_step (v := .tuple [.vptr [vs e_S_auto_state x4.l_, .int .i64 x4.first_], .int .i64 x5]) (h1 := h4) [(1, .str p1), (2, .int .u8 p2), (3, .int .u8 p3), (4, .ptr (some (h.size, 0))), (28, .tuple [.vptr [vs e_S_auto_state x4.l_, .int .i64 x4.first_], .int .i64 x5])] H (fun fr => by kernel_rfl) (fun fr => Steps.call (by kernel_rfl) hr) ?_
        intro fr t H
        refine at_seg [(2, []), (3, []), (4, []), (5, []), (6, [])] [(1, .str p1), (2, .int .u8 p2), (3, .int .u8 p3), (4, .ptr (some (h.size, 0))), (9, .vptr [vs e_S_auto_state x4.l_, .int .i64 x4.first_]), (10, .int .i64 x5)] H (noU_all rfl) (fun fr => by kernel_rfl) ?_
        intro fr H
        refine at_nil ?_
        show AW cfg 7 g (right (right (right (bodyC cfg.P 7)))) fr h4 _
        refine aw_seq (by kernel_rfl) ?_
        refine aw_seq (by kernel_rfl) ?_
        refine aw_reg (id := 4) (n := 2) [(0, []), (1, [])] (by kernel_rfl) (by kernel_rfl) ?_
        refine at_seg [(0, []), (1, [])] [(1, .str p1), (2, .int .u8 p2), (3, .int .u8 p3), (4, .ptr (some (h.size, 0))), (9, .vptr [vs e_S_auto_state x4.l_, .int .i64 x4.first_]), (32, .bool (x5 != (0 : Int)))] H (noU_all rfl) (fun fr => by kernel_rfl) ?_
        intro fr H
        refine at_nil ?_
        show AW cfg 7 g (right (left (right (right (right (bodyC cfg.P 7)))))) fr h4 _
        rcases iteB_some hm with ⟨hb, hm⟩ | ⟨hb, hm⟩
        · replace H := H.know 32 hb (by kernel_rfl)
          refine aw_true (x := .tmp 32) (by kernel_rfl) H (fun fr => by kernel_rfl) ?_
          refine aw_seq (by kernel_rfl) ?_
          refine aw_reg (id := 5) (n := 2) [(0, []), (1, [])] (by kernel_rfl) (by kernel_rfl) ?_
          obtain ⟨x6, hx, hm⟩ := bind_some hm
          refine at_step (v := .bool x6) (h1 := h4) [(33, .bool x6)] H (fun fr => by kernel_rfl) (fun fr => Steps.call (by kernel_rfl) (ok_boulterlaw20_awake hx)) ?_
          intro fr t H
          refine at_seg [(1, [])] [(8, .bool x6)] H (noU_all rfl) (fun fr => by kernel_rfl) ?_
          intro fr H
          refine at_nil ?_
          show AW cfg 7 g (right (left (right (left (right (right (right (bodyC cfg.P 7)))))))) fr h4 _
          refine aw_ret (by kernel_rfl) ?_
          have e1 := Option.some.inj hm
          subst e1
          refine ⟨.inl rfl, .bool x6, resH H (fun fr => by kernel_rfl), ?_⟩
          replace A : HH g h4 [] F := (HH.dropF A 0)
          exact ⟨rfl, A⟩
        · replace H := H.know 32 hb (by kernel_rfl)
          refine aw_false (x := .tmp 32) (by kernel_rfl) H (fun fr => by kernel_rfl) ?_
          refine aw_skip (by kernel_rfl) ?_
          show AW cfg 7 g (right (right (right (right (bodyC cfg.P 7))))) fr h4 _
          refine aw_seq (by kernel_rfl) ?_
          refine aw_seq (by kernel_rfl) ?_
          refine aw_reg (id := 6) (n := 2) [(0, []), (1, [])] (by kernel_rfl) (by kernel_rfl) ?_
          refine at_seg [(0, []), (1, [])] [(1, .str p1), (2, .int .u8 p2), (3, .int .u8 p3), (4, .ptr (some (h.size, 0))), (9, .vptr [vs e_S_auto_state x4.l_, .int .i64 x4.first_]), (35, .bool false)] H (noU_all rfl) (fun fr => by kernel_rfl) ?_
          intro fr H
          refine at_nil ?_
          show AW cfg 7 g (right (left (right (right (right (right (bodyC cfg.P 7))))))) fr h4 _
          refine aw_false (x := .tmp 35) (by kernel_rfl) H (fun fr => by kernel_rfl) ?_
          refine aw_skip (by kernel_rfl) ?_
          show AW cfg 7 g (right (right (right (right (right (bodyC cfg.P 7)))))) fr h4 _
          refine aw_seq (by kernel_rfl) ?_
          refine aw_reg (id := 8) (n := 3) [(0, []), (1, []), (2, [])] (by kernel_rfl) (by kernel_rfl) ?_
          refine at_seg [(0, [])] [(1, .str p1), (2, .int .u8 p2), (3, .int .u8 p3), (4, .ptr (some (h.size, 0))), (9, .vptr [vs e_S_auto_state x4.l_, .int .i64 x4.first_]), (36, .vptr [vs e_S_auto_state x4.l_, .int .i64 x4.first_])] H (noU_all rfl) (fun fr => by kernel_rfl) ?_
          intro fr H
          have A1 := A.cut 0
          obtain ⟨x7, hx, hm⟩ := bind_some hm
          obtain ⟨v1, h5, hr, rqw6, rfl, A1⟩ := ok_auto_Auto_Start (av := [.vptr [vs e_S_auto_state x4.l_, .int .i64 x4.first_], .bool true]) hx (by kernel_rfl) A1
          replace A : HH g h5 [.lst rqw6 3 (lst (eI .i64) x7), .obj h.size (.cells none 2 [vs e_S_tree_Node p0.Nodes, .int .i64 p0.Root])] F := A.glue0 (n := 0) A1
          refine at_step (v := rowV rqw6 x7.length) (h1 := h5) [(1, .str p1), (2, .int .u8 p2), (3, .int .u8 p3), (4, .ptr (some (h.size, 0))), (9, .vptr [vs e_S_auto_state x4.l_, .int .i64 x4.first_]), (37, rowV rqw6 x7.length)] H (fun fr => by kernel_rfl) (fun fr => Steps.call (by kernel_rfl) hr) ?_
          intro fr t H
          refine at_seg [(2, [])] [(1, .str p1), (2, .int .u8 p2), (3, .int .u8 p3), (4, .ptr (some (h.size, 0))), (9, .vptr [vs e_S_auto_state x4.l_, .int .i64 x4.first_]), (11, rowV rqw6 x7.length)] H (noU_all rfl) (fun fr => by kernel_rfl) ?_
          intro fr H
          refine at_nil ?_
          show AW cfg 7 g (right (right (right (right (right (right (bodyC cfg.P 7))))))) fr h5 _
          refine aw_seq (by kernel_rfl) ?_
          refine aw_seq (by kernel_rfl) ?_
          refine aw_reg (id := 9) (n := 1) [(0, [])] (by kernel_rfl) (by kernel_rfl) ?_
          refine at_seg [(0, [])] [(1, .str p1), (2, .int .u8 p2), (3, .int .u8 p3), (4, .ptr (some (h.size, 0))), (9, .vptr [vs e_S_auto_state x4.l_, .int .i64 x4.first_]), (11, rowV rqw6 x7.length), (12, .int .i64 (0 : Int))] H (noU_all rfl) (fun fr => by kernel_rfl) ?_
          intro fr H
          refine at_nil ?_
          show AW cfg 7 g (right (left (right (right (right (right (right (right (bodyC cfg.P 7))))))))) fr h5 _
          refine aw_block (id := 0) (by kernel_rfl) ?_
          obtain ⟨o1, ho, hm⟩ := bind_some hm
          refine aw_mono (Q' := fun e fr' h' => (e = .exit 0 ∧ .inl () = o1 ∧ Has fr' 103 [(2, .int .u8 p2), (3, .int .u8 p3), (4, .ptr (some (h.size, 0))), (9, .vptr [vs e_S_auto_state x4.l_, .int .i64 x4.first_])] ∧ HH g h' [.obj h.size (.cells none 2 [vs e_S_tree_Node p0.Nodes, .int .i64 p0.Root])] F) ∨ (∃ (x10 : Bool), e = .ret ∧ .inr x10 = o1 ∧ Has fr' 103 [(8, .bool x10)] ∧ HH g h' [.obj h.size (.cells none 2 [vs e_S_tree_Node p0.Nodes, .int .i64 p0.Root])] F) ∨ False) ?_ ?_
          · refine aw_loop (by kernel_rfl) (fun (s : (List Int) × Int) fr' h' => ∃ (x8 : List Int) (x9 : Int), (x8, x9) = s ∧ ∃ (r1 : Option Nat), Has fr' 103 [(1, .str p1), (2, .int .u8 p2), (3, .int .u8 p3), (4, .ptr (some (h.size, 0))), (9, .vptr [vs e_S_auto_state x4.l_, .int .i64 x4.first_]), (11, rowV r1 x8.length), (12, .int .i64 x9)] ∧ HH g h' [.lst r1 3 (lst (eI .i64) x8), .obj h.size (.cells none 2 [vs e_S_tree_Node p0.Nodes, .int .i64 p0.Root])] F) ho ⟨x7, (0 : Int), rfl, rqw6, H.less _ (fun fr => by kernel_rfl), A⟩ ?_
            clear ho hm H A
            intro s q fr h6 hI hm
            obtain ⟨x8, x9, rfl, r1, H, A⟩ := hI
            unfold M_boulterlaw20_AutoApart_L0 at hm
            refine aw_seq (by kernel_rfl) ?_
            refine aw_seq (by kernel_rfl) ?_
            refine aw_reg (id := 10) (n := 4) [(0, []), (1, []), (2, []), (3, [])] (by kernel_rfl) (by kernel_rfl) ?_
            refine at_seg [(0, []), (1, []), (2, []), (3, [])] [(1, .str p1), (2, .int .u8 p2), (3, .int .u8 p3), (4, .ptr (some (h.size, 0))), (9, .vptr [vs e_S_auto_state x4.l_, .int .i64 x4.first_]), (11, rowV r1 x8.length), (12, .int .i64 x9), (41, .bool (decide (x9 < (p1.length : Int))))] H (noU_all rfl) (fun fr => by kernel_rfl) ?_
            intro fr H
            refine at_nil ?_
            show AW cfg 7 g (right (left (left (left (right (left (right (right (right (right (right (right (bodyC cfg.P 7))))))))))))) fr h6 _
            rcases iteB_some hm with ⟨hb, hm⟩ | ⟨hb, hm⟩
            · replace H := H.know 41 hb (by kernel_rfl)
              refine aw_true (x := .tmp 41) (by kernel_rfl) H (fun fr => by kernel_rfl) ?_
              refine aw_skip (by kernel_rfl) ?_
              show AW cfg 7 g (right (left (left (right (left (right (right (right (right (right (right (bodyC cfg.P 7)))))))))))) fr h6 _
              refine aw_seq (by kernel_rfl) ?_
              refine aw_block (id := 1) (by kernel_rfl) ?_
              refine aw_seq (by kernel_rfl) ?_
              refine aw_seq (by kernel_rfl) ?_
              refine aw_reg (id := 12) (n := 17) [(0, []), (1, []), (2, []), (3, []), (4, []), (5, []), (6, []), (7, []), (8, []), (9, []), (10, []), (11, []), (12, []), (13, []), (14, []), (15, []), (16, [])] (by kernel_rfl) (by kernel_rfl) ?_
              refine at_seg [(0, []), (1, []), (2, [])] [(1, .str p1), (2, .int .u8 p2), (3, .int .u8 p3), (4, .ptr (some (h.size, 0))), (9, .vptr [vs e_S_auto_state x4.l_, .int .i64 x4.first_]), (11, rowV r1 x8.length), (12, .int .i64 x9), (44, .vptr [vs e_S_auto_state x4.l_, .int .i64 x4.first_]), (45, .int .u8 p2), (46, .int .u8 p3)] H (noU_all rfl) (fun fr => by kernel_rfl) ?_
              intro fr H
              have A1 := A.cut 0
              obtain ⟨x11, hx, hm⟩ := bind_some hm
              obtain ⟨v1, h7, hr, rfl, A1⟩ := ok_auto_Auto_Apart (av := [.vptr [vs e_S_auto_state x4.l_, .int .i64 x4.first_], .int .u8 p2, .int .u8 p3]) hx (by kernel_rfl) A1
              replace A : HH g h7 [.lst r1 3 (lst (eI .i64) x8), .obj h.size (.cells none 2 [vs e_S_tree_Node p0.Nodes, .int .i64 p0.Root])] F := A.glue0 (n := 0) A1
              refine at_step (v := .bool x11) (h1 := h7) [(1, .str p1), (2, .int .u8 p2), (3, .int .u8 p3), (4, .ptr (some (h.size, 0))), (9, .vptr [vs e_S_auto_state x4.l_, .int .i64 x4.first_]), (11, rowV r1 x8.length), (12, .int .i64 x9), (47, .bool x11)] H (fun fr => by kernel_rfl) (fun fr => Steps.call (by kernel_rfl) hr) ?_
              intro fr t H
              refine at_seg [(4, []), (5, [])] [(1, .str p1), (2, .int .u8 p2), (3, .int .u8 p3), (4, .ptr (some (h.size, 0))), (9, .vptr [vs e_S_auto_state x4.l_, .int .i64 x4.first_]), (11, rowV r1 x8.length), (12, .int .i64 x9), (49, .bool (!x11))] H (noU_all rfl) (fun fr => by kernel_rfl) ?_
              intro fr H
              obtain ⟨x12, ho, hm⟩ := bind_some hm
              refine at_cut [(6, []), (7, []), (8, []), (9, []), (10, []), (11, []), (12, []), (13, []), (14, []), (15, []), (16, [])] (fun fr' h' => Has fr' 103 [(1, .str p1), (2, .int .u8 p2), (3, .int .u8 p3), (4, .ptr (some (h.size, 0))), (9, .vptr [vs e_S_auto_state x4.l_, .int .i64 x4.first_]), (11, rowV r1 x8.length), (12, .int .i64 x9), (60, .bool x12)] ∧ HH g h' [.lst r1 3 (lst (eI .i64) x8), .obj h.size (.cells none 2 [vs e_S_tree_Node p0.Nodes, .int .i64 p0.Root])] F) ?_ ?_
              · rcases iteB_some ho with ⟨hb, hm⟩ | ⟨hb, hm⟩
                · replace H := H.know 49 hb (by kernel_rfl)
                  refine at_seg [(6, []), (7, []), (8, [])] [(1, .str p1), (2, .int .u8 p2), (3, .int .u8 p3), (4, .ptr (some (h.size, 0))), (9, .vptr [vs e_S_auto_state x4.l_, .int .i64 x4.first_]), (11, rowV r1 x8.length), (12, .int .i64 x9), (49, .bool true), (50, .vptr [vs e_S_auto_state x4.l_, .int .i64 x4.first_]), (51, rowV r1 x8.length), (52, .int .u8 p2)] H (noU_all rfl) (fun fr => by kernel_rfl) ?_
                  intro fr H
                  have A1 := A.cut 1
                  obtain ⟨x13, hx, hm⟩ := bind_some hm
                  obtain ⟨v1, h9, hr, rqw8, rfl, A1⟩ := ok_auto_Auto_Step_sPVOI (av := [.vptr [vs e_S_auto_state x4.l_, .int .i64 x4.first_], rowV r1 x8.length, .int .u8 p2]) hx (by kernel_rfl) A1
                  replace A : HH g h9 [.lst rqw8 3 (lst (eI .i64) x13), .lst r1 3 (lst (eI .i64) x8), .obj h.size (.cells none 2 [vs e_S_tree_Node p0.Nodes, .int .i64 p0.Root])] F := A.glue0 (n := 1) A1
                  refine at_step (v := rowV rqw8 x13.length) (h1 := h9) [(1, .str p1), (2, .int .u8 p2), (3, .int .u8 p3), (4, .ptr (some (h.size, 0))), (9, .vptr [vs e_S_auto_state x4.l_, .int .i64 x4.first_]), (11, rowV r1 x8.length), (12, .int .i64 x9), (49, .bool true), (53, rowV rqw8 x13.length)] H (fun fr => by kernel_rfl) (fun fr => Steps.call (by kernel_rfl) hr) ?_
                  intro fr t H
                  refine at_seg [(10, []), (11, []), (12, [])] [(1, .str p1), (2, .int .u8 p2), (3, .int .u8 p3), (4, .ptr (some (h.size, 0))), (9, .vptr [vs e_S_auto_state x4.l_, .int .i64 x4.first_]), (11, rowV r1 x8.length), (12, .int .i64 x9), (49, .bool true), (53, rowV rqw8 x13.length), (54, .vptr [vs e_S_auto_state x4.l_, .int .i64 x4.first_]), (55, rowV r1 x8.length), (56, .int .u8 p3)] H (noU_all rfl) (fun fr => by kernel_rfl) ?_
                  intro fr H
                  replace A : HH g h9 [.lst r1 3 (lst (eI .i64) x8), .lst rqw8 3 (lst (eI .i64) x13), .obj h.size (.cells none 2 [vs e_S_tree_Node p0.Nodes, .int .i64 p0.Root])] F := (A.front 1 rfl)
                  have A1 := A.cut 1
                  obtain ⟨x14, hx, hm⟩ := bind_some hm
                  obtain ⟨v1, h10, hr, rqw9, rfl, A1⟩ := ok_auto_Auto_Step_sPVOI (av := [.vptr [vs e_S_auto_state x4.l_, .int .i64 x4.first_], rowV r1 x8.length, .int .u8 p3]) hx (by kernel_rfl) A1
                  replace A : HH g h10 [.lst rqw9 3 (lst (eI .i64) x14), .lst r1 3 (lst (eI .i64) x8), .lst rqw8 3 (lst (eI .i64) x13), .obj h.size (.cells none 2 [vs e_S_tree_Node p0.Nodes, .int .i64 p0.Root])] F := A.glue0 (n := 1) A1
                  refine at_step (v := rowV rqw9 x14.length) (h1 := h10) [(1, .str p1), (2, .int .u8 p2), (3, .int .u8 p3), (4, .ptr (some (h.size, 0))), (9, .vptr [vs e_S_auto_state x4.l_, .int .i64 x4.first_]), (11, rowV r1 x8.length), (12, .int .i64 x9), (49, .bool true), (53, rowV rqw8 x13.length), (57, rowV rqw9 x14.length)] H (fun fr => by kernel_rfl) (fun fr => Steps.call (by kernel_rfl) hr) ?_
                  intro fr t H
                  replace A : HH g h10 [.lst rqw8 3 (lst (eI .i64) x13), .lst rqw9 3 (lst (eI .i64) x14), .lst r1 3 (lst (eI .i64) x8), .obj h.size (.cells none 2 [vs e_S_tree_Node p0.Nodes, .int .i64 p0.Root])] F := ((A.front 0 rfl).front 2 rfl)
                  have A1 := A.cut 2
                  obtain ⟨x15, hx, hm⟩ := bind_some hm
                  obtain ⟨v1, h11, hr, rfl, A1⟩ := ok_boulterref16_Same_sOO (av := [rowV rqw8 x13.length, rowV rqw9 x14.length]) hx (by kernel_rfl) A1
                  replace A : HH g h11 [.lst rqw8 3 (lst (eI .i64) x13), .lst rqw9 3 (lst (eI .i64) x14), .lst r1 3 (lst (eI .i64) x8), .obj h.size (.cells none 2 [vs e_S_tree_Node p0.Nodes, .int .i64 p0.Root])] F := A.glue0 (n := 2) A1
                  refine at_step (v := .bool x15) (h1 := h11) [(1, .str p1), (2, .int .u8 p2), (3, .int .u8 p3), (4, .ptr (some (h.size, 0))), (9, .vptr [vs e_S_auto_state x4.l_, .int .i64 x4.first_]), (11, rowV r1 x8.length), (12, .int .i64 x9), (49, .bool true), (58, .bool x15)] H (fun fr => by kernel_rfl) (fun fr => Steps.call (by kernel_rfl) hr) ?_
                  intro fr t H
                  refine at_seg [(15, []), (16, [])] [(1, .str p1), (2, .int .u8 p2), (3, .int .u8 p3), (4, .ptr (some (h.size, 0))), (9, .vptr [vs e_S_auto_state x4.l_, .int .i64 x4.first_]), (11, rowV r1 x8.length), (12, .int .i64 x9), (60, .bool (!x15))] H (noU_all rfl) (fun fr => by kernel_rfl) ?_
                  intro fr H
                  have e1 := Option.some.inj hm
                  subst e1
                  replace A : HH g h11 [.lst r1 3 (lst (eI .i64) x8), .obj h.size (.cells none 2 [vs e_S_tree_Node p0.Nodes, .int .i64 p0.Root])] F := (HH.dropF ((A.front 3 rfl).front 3 rfl) 2)
                  exact at_nil ⟨H.less _ (fun fr => by kernel_rfl), A⟩
                · replace H := H.know 49 hb (by kernel_rfl)
                  refine at_seg [(6, []), (7, []), (8, []), (9, []), (10, []), (11, []), (12, []), (13, []), (14, []), (15, []), (16, [])] [(1, .str p1), (2, .int .u8 p2), (3, .int .u8 p3), (4, .ptr (some (h.size, 0))), (9, .vptr [vs e_S_auto_state x4.l_, .int .i64 x4.first_]), (11, rowV r1 x8.length), (12, .int .i64 x9), (60, .bool false)] H (noU_all rfl) (fun fr => by kernel_rfl) ?_
                  intro fr H
                  have e1 := Option.some.inj hm
                  subst e1
                  exact at_nil ⟨H.less _ (fun fr => by kernel_rfl), A⟩
              · clear A
                intro t fr h8 hK
                obtain ⟨H, A⟩ := hK
                refine at_nil ?_
                show AW cfg 7 g (right (left (left (left (right (left (left (right (left (right (right (right (right (right (right (bodyC cfg.P 7)))))))))))))))) fr h8 _
                rcases iteB_some hm with ⟨hb, hm⟩ | ⟨hb, hm⟩
                · replace H := H.know 60 hb (by kernel_rfl)
                  refine aw_true (x := .tmp 60) (by kernel_rfl) H (fun fr => by kernel_rfl) ?_
                  refine aw_seq (by kernel_rfl) ?_
                  refine aw_reg (id := 13) (n := 1) [(0, [])] (by kernel_rfl) (by kernel_rfl) ?_
                  refine at_seg [(0, [])] [(8, .bool false)] H (noU_all rfl) (fun fr => by kernel_rfl) ?_
                  intro fr H
                  refine at_nil ?_
                  show AW cfg 7 g (right (left (right (left (left (left (right (left (left (right (left (right (right (right (right (right (right (bodyC cfg.P 7)))))))))))))))))) fr h8 _
                  refine aw_ret (by kernel_rfl) ?_
                  replace A : HH g h8 [.obj h.size (.cells none 2 [vs e_S_tree_Node p0.Nodes, .int .i64 p0.Root])] F := (HH.dropF (A.front 1 rfl) 1)
                  exact Exists.intro _ (And.intro (Option.some.inj hm).symm (fun e => Or.inr (Or.inl ⟨false, rfl, e, H.less _ (fun fr => by kernel_rfl), A⟩)))
                · replace H := H.know 60 hb (by kernel_rfl)
                  refine aw_false (x := .tmp 60) (by kernel_rfl) H (fun fr => by kernel_rfl) ?_
                  refine aw_skip (by kernel_rfl) ?_
                  show AW cfg 7 g (right (left (left (right (left (left (right (left (right (right (right (right (right (right (bodyC cfg.P 7))))))))))))))) fr h8 _
                  refine aw_reg (id := 14) (n := 7) [(0, []), (1, []), (2, []), (3, []), (4, []), (5, []), (6, [])] (by kernel_rfl) (by kernel_rfl) ?_
                  refine at_seg [(0, []), (1, []), (2, []), (3, [])] [(1, .str p1), (2, .int .u8 p2), (3, .int .u8 p3), (4, .ptr (some (h.size, 0))), (9, .vptr [vs e_S_auto_state x4.l_, .int .i64 x4.first_]), (12, .int .i64 x9), (61, .vptr [vs e_S_auto_state x4.l_, .int .i64 x4.first_]), (62, rowV r1 x8.length), (63, .str p1), (64, .int .i64 x9)] H (noU_all rfl) (fun fr => by kernel_rfl) ?_
                  intro fr H
                  obtain ⟨x16, hx, hm⟩ := bind_some hm
                  refine at_step (v := .int .u8 x16) (h1 := h8) [(1, .str p1), (2, .int .u8 p2), (3, .int .u8 p3), (4, .ptr (some (h.size, 0))), (9, .vptr [vs e_S_auto_state x4.l_, .int .i64 x4.first_]), (12, .int .i64 x9), (61, .vptr [vs e_S_auto_state x4.l_, .int .i64 x4.first_]), (62, rowV r1 x8.length), (65, .int .u8 x16)] H (fun fr => by kernel_rfl) (fun fr => .of (s_ixS (by kernel_rfl) hx)) ?_
                  intro fr t H
                  have A1 := A.cut 1
                  obtain ⟨x17, hx, hm⟩ := bind_some hm
                  obtain ⟨v1, h12, hr, rqw11, rfl, A1⟩ := ok_auto_Auto_Step_sPVOI (av := [.vptr [vs e_S_auto_state x4.l_, .int .i64 x4.first_], rowV r1 x8.length, .int .u8 x16]) hx (by kernel_rfl) A1
                  replace A : HH g h12 [.lst rqw11 3 (lst (eI .i64) x17), .lst r1 3 (lst (eI .i64) x8), .obj h.size (.cells none 2 [vs e_S_tree_Node p0.Nodes, .int .i64 p0.Root])] F := A.glue0 (n := 1) A1
                  refine at_step (v := rowV rqw11 x17.length) (h1 := h12) [(1, .str p1), (2, .int .u8 p2), (3, .int .u8 p3), (4, .ptr (some (h.size, 0))), (9, .vptr [vs e_S_auto_state x4.l_, .int .i64 x4.first_]), (12, .int .i64 x9), (66, rowV rqw11 x17.length)] H (fun fr => by kernel_rfl) (fun fr => Steps.call (by kernel_rfl) hr) ?_
                  intro fr t H
                  refine at_seg [(6, [])] [(1, .str p1), (2, .int .u8 p2), (3, .int .u8 p3), (4, .ptr (some (h.size, 0))), (9, .vptr [vs e_S_auto_state x4.l_, .int .i64 x4.first_]), (11, rowV rqw11 x17.length), (12, .int .i64 x9)] H (noU_all rfl) (fun fr => by kernel_rfl) ?_
                  intro fr H
                  refine at_nil ?_
                  show AW cfg 7 g (right (right (left (left (right (left (right (right (right (right (right (right (bodyC cfg.P 7))))))))))))) fr h12 _
                  refine aw_reg (id := 11) (n := 3) [(0, []), (1, []), (2, [])] (by kernel_rfl) (by kernel_rfl) ?_
                  refine at_seg [(0, []), (1, []), (2, [])] [(1, .str p1), (2, .int .u8 p2), (3, .int .u8 p3), (4, .ptr (some (h.size, 0))), (9, .vptr [vs e_S_auto_state x4.l_, .int .i64 x4.first_]), (11, rowV rqw11 x17.length), (12, .int .i64 (IntKind.i64.wrap (x9 + (1 : Int))))] H (noU_all rfl) (fun fr => by kernel_rfl) ?_
                  intro fr H
                  refine at_nil ?_
                  replace A : HH g h12 [.lst rqw11 3 (lst (eI .i64) x17), .obj h.size (.cells none 2 [vs e_S_tree_Node p0.Nodes, .int .i64 p0.Root])] F := (HH.dropF ((A.front 2 rfl).front 1 rfl) 2)
                  exact Exists.intro (x17, IntKind.i64.wrap (x9 + (1 : Int))) (And.intro (Option.some.inj hm).symm ⟨x17, IntKind.i64.wrap (x9 + (1 : Int)), rfl, rqw11, H.less _ (fun fr => by kernel_rfl), A⟩)
            · replace H := H.know 41 hb (by kernel_rfl)
              refine aw_false (x := .tmp 41) (by kernel_rfl) H (fun fr => by kernel_rfl) ?_
              refine aw_exit (i := 0) (by kernel_rfl) ?_
              replace A : HH g h6 [.obj h.size (.cells none 2 [vs e_S_tree_Node p0.Nodes, .int .i64 p0.Root])] F := (HH.dropF (A.front 1 rfl) 1)
              exact Exists.intro _ (And.intro (Option.some.inj hm).symm (fun e => Or.inl ⟨rfl, e, H.less _ (fun fr => by kernel_rfl), A⟩))
          · clear ho
            clear A
            intro e fr h13 hQ
            rcases hQ with ⟨rfl, rfl, H, A⟩ | ⟨x10, rfl, rfl, H, A⟩ | hF
            · skip
              show AW cfg 7 g (right (right (right (right (right (right (right (bodyC cfg.P 7)))))))) fr h13 _
              refine aw_seq (by kernel_rfl) ?_
              refine aw_reg (id := 15) (n := 1) [(0, [])] (by kernel_rfl) (by kernel_rfl) ?_
              refine at_seg [(0, [])] [(2, .int .u8 p2), (3, .int .u8 p3), (4, .ptr (some (h.size, 0))), (9, .vptr [vs e_S_auto_state x4.l_, .int .i64 x4.first_]), (13, .bool false)] H (noU_all rfl) (fun fr => by kernel_rfl) ?_
              intro fr H
              refine at_nil ?_
              show AW cfg 7 g (right (right (right (right (right (right (right (right (bodyC cfg.P 7))))))))) fr h13 _
              refine aw_seq (by kernel_rfl) ?_
              refine aw_seq (by kernel_rfl) ?_
              refine aw_reg (id := 16) (n := 4) [(0, []), (1, []), (2, []), (3, [])] (by kernel_rfl) (by kernel_rfl) ?_
              refine at_seg [(0, [])] [(2, .int .u8 p2), (3, .int .u8 p3), (9, .vptr [vs e_S_auto_state x4.l_, .int .i64 x4.first_]), (13, .bool false), (67, .ptr (some (h.size, 0)))] H (noU_all rfl) (fun fr => by kernel_rfl) ?_
              intro fr H
              refine at_step (v := vs e_S_tree_Node p0.Nodes) (h1 := h13) [(2, .int .u8 p2), (3, .int .u8 p3), (9, .vptr [vs e_S_auto_state x4.l_, .int .i64 x4.first_]), (13, .bool false), (68, vs e_S_tree_Node p0.Nodes)] H (fun fr => by kernel_rfl) (fun fr => .of (s_ld (by kernel_rfl) (A.ld1 0 rfl (o := 0) rfl))) ?_
              intro fr t H
              refine at_seg [(2, []), (3, [])] [(2, .int .u8 p2), (3, .int .u8 p3), (9, .vptr [vs e_S_auto_state x4.l_, .int .i64 x4.first_]), (13, .bool false), (68, vs e_S_tree_Node p0.Nodes), (69, .int .i64 (p0.Nodes.length : Int)), (70, .int .i64 (0 : Int))] H (noU_all rfl) (fun fr => by kernel_rfl) ?_
              intro fr H
              refine at_nil ?_
              show AW cfg 7 g (right (left (right (right (right (right (right (right (right (right (bodyC cfg.P 7))))))))))) fr h13 _
              refine aw_block (id := 2) (by kernel_rfl) ?_
              obtain ⟨o2, ho, hm⟩ := bind_some hm
              refine aw_mono (Q' := fun e fr' h' => (∃ (x20 : Bool), e = .exit 2 ∧ x20 = o2 ∧ Has fr' 103 [(2, .int .u8 p2), (3, .int .u8 p3), (9, .vptr [vs e_S_auto_state x4.l_, .int .i64 x4.first_]), (13, .bool x20)] ∧ HH g h' [.obj h.size (.cells none 2 [vs e_S_tree_Node p0.Nodes, .int .i64 p0.Root])] F) ∨ False) ?_ ?_
              · refine aw_loop (by kernel_rfl) (fun (s : Bool × Int) fr' h' => ∃ (x18 : Bool) (x19 : Int), (x18, x19) = s ∧ Has fr' 103 [(2, .int .u8 p2), (3, .int .u8 p3), (9, .vptr [vs e_S_auto_state x4.l_, .int .i64 x4.first_]), (13, .bool x18), (68, vs e_S_tree_Node p0.Nodes), (69, .int .i64 (p0.Nodes.length : Int)), (70, .int .i64 x19)] ∧ HH g h' [.obj h.size (.cells none 2 [vs e_S_tree_Node p0.Nodes, .int .i64 p0.Root])] F) ho ⟨false, (0 : Int), rfl, H.less _ (fun fr => by kernel_rfl), A⟩ ?_
                clear ho hm H A
                intro s q fr h14 hI hm
                obtain ⟨x18, x19, rfl, H, A⟩ := hI
                unfold M_boulterlaw20_AutoApart_L1 at hm
                refine aw_seq (by kernel_rfl) ?_
                refine aw_reg (id := 17) (n := 1) [(0, [])] (by kernel_rfl) (by kernel_rfl) ?_
                refine at_seg [(0, [])] [(2, .int .u8 p2), (3, .int .u8 p3), (9, .vptr [vs e_S_auto_state x4.l_, .int .i64 x4.first_]), (13, .bool x18), (68, vs e_S_tree_Node p0.Nodes), (69, .int .i64 (p0.Nodes.length : Int)), (70, .int .i64 x19), (71, .bool (decide (x19 < (p0.Nodes.length : Int))))] H (noU_all rfl) (fun fr => by kernel_rfl) ?_
                intro fr H
                refine at_nil ?_
                show AW cfg 7 g (right (left (left (right (left (right (right (right (right (right (right (right (right (bodyC cfg.P 7)))))))))))))) fr h14 _
                refine aw_seq (by kernel_rfl) ?_
                rcases iteB_some hm with ⟨hb, hm⟩ | ⟨hb, hm⟩
                · replace H := H.know 71 hb (by kernel_rfl)
                  refine aw_true (x := .tmp 71) (by kernel_rfl) H (fun fr => by kernel_rfl) ?_
                  refine aw_skip (by kernel_rfl) ?_
                  show AW cfg 7 g (right (right (left (left (right (left (right (right (right (right (right (right (right (right (bodyC cfg.P 7))))))))))))))) fr h14 _
                  refine aw_seq (by kernel_rfl) ?_
                  refine aw_block (id := 3) (by kernel_rfl) ?_
                  refine aw_seq (by kernel_rfl) ?_
                  refine aw_reg (id := 18) (n := 4) [(0, []), (1, []), (2, []), (3, [])] (by kernel_rfl) (by kernel_rfl) ?_
                  obtain ⟨x21, hx, hm⟩ := bind_some hm
                  refine at_step (v := .vptr (e_S_tree_Node x21)) (h1 := h14) [(2, .int .u8 p2), (3, .int .u8 p3), (9, .vptr [vs e_S_auto_state x4.l_, .int .i64 x4.first_]), (13, .bool x18), (68, vs e_S_tree_Node p0.Nodes), (69, .int .i64 (p0.Nodes.length : Int)), (70, .int .i64 x19), (72, .vptr (e_S_tree_Node x21))] H (fun fr => by kernel_rfl) (fun fr => .of (s_ixV (e := e_S_tree_Node) (x := x21) enc_S_tree_Node (by decide) (by kernel_rfl) hx)) ?_
                  intro fr t H
                  refine at_step (v := .agg (e_S_tree_Node x21)) (h1 := h14) [(2, .int .u8 p2), (3, .int .u8 p3), (9, .vptr [vs e_S_auto_state x4.l_, .int .i64 x4.first_]), (13, .bool x18), (68, vs e_S_tree_Node p0.Nodes), (69, .int .i64 (p0.Nodes.length : Int)), (70, .int .i64 x19), (73, .agg (e_S_tree_Node x21))] H (fun fr => by kernel_rfl) (fun fr => .of (s_lv (by kernel_rfl))) ?_
                  intro fr t H
                  obtain ⟨h15, e2⟩ : ∃ x, x = h14.push (.cells none 2 [.int .i64 (0 : Int), .int .i64 (0 : Int), .int .i64 (0 : Int), .int .i64 (0 : Int), .int .i64 (0 : Int), .int .i64 (0 : Int), .int .u64 (0 : Int), .int .u64 (0 : Int), .int .u64 (0 : Int), .int .u64 (0 : Int)]) := ⟨_, rfl⟩
                  replace A := (A.push _).to e2
                  refine at_step (v := .ptr (some (h14.size, 0))) (h1 := h15) [(2, .int .u8 p2), (3, .int .u8 p3), (9, .vptr [vs e_S_auto_state x4.l_, .int .i64 x4.first_]), (13, .bool x18), (15, .ptr (some (h14.size, 0))), (68, vs e_S_tree_Node p0.Nodes), (69, .int .i64 (p0.Nodes.length : Int)), (70, .int .i64 x19), (73, .agg (e_S_tree_Node x21))] H (fun fr => by kernel_rfl) (fun fr => .of (s_n' (by kernel_rfl) (congrArg some e2.symm))) ?_
                  intro fr t H
                  obtain ⟨h16, hx, A1⟩ := A.st 0 rfl (o := 0) (new := [.int .i64 x21.Kind, .int .i64 x21.A, .int .i64 x21.B, .int .i64 x21.Min, .int .i64 x21.Max, .int .i64 x21.Group, .int .u64 x21.Set.w0, .int .u64 x21.Set.w1, .int .u64 x21.Set.w2, .int .u64 x21.Set.w3]) (ds := [.int .i64 x21.Kind, .int .i64 x21.A, .int .i64 x21.B, .int .i64 x21.Min, .int .i64 x21.Max, .int .i64 x21.Group, .int .u64 x21.Set.w0, .int .u64 x21.Set.w1, .int .u64 x21.Set.w2, .int .u64 x21.Set.w3]) (Nat.le_of_ble_eq_true rfl) rfl rfl
                  replace A : HH g h16 [.obj h14.size (.cells none 2 (e_S_tree_Node x21)), .obj h.size (.cells none 2 [vs e_S_tree_Node p0.Nodes, .int .i64 p0.Root])] F := A1
                  refine at_step (v := .tuple []) (h1 := h16) [(2, .int .u8 p2), (3, .int .u8 p3), (9, .vptr [vs e_S_auto_state x4.l_, .int .i64 x4.first_]), (13, .bool x18), (15, .ptr (some (h14.size, 0))), (68, vs e_S_tree_Node p0.Nodes), (69, .int .i64 (p0.Nodes.length : Int)), (70, .int .i64 x19)] H (fun fr => by kernel_rfl) (fun fr => .of (s_stG (by kernel_rfl) (stG_st hx rfl))) ?_
                  intro fr t H
                  refine at_nil ?_
                  show AW cfg 7 g (right (left (left (right (right (left (left (right (left (right (right (right (right (right (right (right (right (bodyC cfg.P 7)))))))))))))))))) fr h16 _
                  refine aw_draw (id := 19) (n := 18) (by kernel_rfl) [(0, []), (1, []), (2, []), (3, []), (4, []), (5, []), (6, []), (7, []), (8, []), (10, []), (11, []), (9, [11]), (12, []), (13, []), (14, []), (15, []), (16, []), (17, [])] (by kernel_rfl) ?_
                  refine at_seg [(0, []), (1, [])] [(2, .int .u8 p2), (3, .int .u8 p3), (9, .vptr [vs e_S_auto_state x4.l_, .int .i64 x4.first_]), (15, .ptr (some (h14.size, 0))), (68, vs e_S_tree_Node p0.Nodes), (69, .int .i64 (p0.Nodes.length : Int)), (70, .int .i64 x19), (75, .bool x18)] H (noU_all rfl) (fun fr => by kernel_rfl) ?_
                  intro fr H
                  obtain ⟨x22, ho, hm⟩ := bind_some hm
                  refine at_cut [(2, []), (3, []), (4, []), (5, []), (6, []), (7, []), (8, []), (10, []), (11, []), (9, [11]), (12, []), (13, []), (14, []), (15, []), (16, [])] (fun fr' h' => Has fr' 103 [(2, .int .u8 p2), (3, .int .u8 p3), (9, .vptr [vs e_S_auto_state x4.l_, .int .i64 x4.first_]), (68, vs e_S_tree_Node p0.Nodes), (69, .int .i64 (p0.Nodes.length : Int)), (70, .int .i64 x19), (90, .bool x22)] ∧ HH g h' [.obj h14.size (.cells none 2 (e_S_tree_Node x21)), .obj h.size (.cells none 2 [vs e_S_tree_Node p0.Nodes, .int .i64 p0.Root])] F) ?_ ?_
                  · rcases iteB_some ho with ⟨hb, hm⟩ | ⟨hb, hm⟩
                    · replace H := H.know 75 hb (by kernel_rfl)
                      refine at_seg [(2, []), (3, []), (4, []), (5, []), (6, []), (7, []), (8, []), (10, []), (11, [])] [(2, .int .u8 p2), (3, .int .u8 p3), (9, .vptr [vs e_S_auto_state x4.l_, .int .i64 x4.first_]), (68, vs e_S_tree_Node p0.Nodes), (69, .int .i64 (p0.Nodes.length : Int)), (70, .int .i64 x19), (75, .bool true), (79, .tuple []), (81, .tuple []), (82, .tuple []), (85, .tuple [])] H (noU_all rfl) (fun fr => by kernel_rfl) ?_
                      intro fr H
                      refine at_skip [(2, .int .u8 p2), (3, .int .u8 p3), (9, .vptr [vs e_S_auto_state x4.l_, .int .i64 x4.first_]), (68, vs e_S_tree_Node p0.Nodes), (69, .int .i64 (p0.Nodes.length : Int)), (70, .int .i64 x19), (75, .bool true), (79, .tuple []), (83, .tuple []), (85, .tuple [])] H (fun fr => by kernel_rfl) ?_
                      intro fr H
                      refine at_seg [(12, []), (13, []), (14, []), (15, []), (16, [])] [(2, .int .u8 p2), (3, .int .u8 p3), (9, .vptr [vs e_S_auto_state x4.l_, .int .i64 x4.first_]), (68, vs e_S_tree_Node p0.Nodes), (69, .int .i64 (p0.Nodes.length : Int)), (70, .int .i64 x19), (90, .bool true)] H (noU_all rfl) (fun fr => by kernel_rfl) ?_
                      intro fr H
                      have e1 := Option.some.inj hm
                      subst e1
                      exact at_nil ⟨H.less _ (fun fr => by kernel_rfl), A⟩
                    · replace H := H.know 75 hb (by kernel_rfl)
                      refine at_seg [(2, [])] [(2, .int .u8 p2), (3, .int .u8 p3), (9, .vptr [vs e_S_auto_state x4.l_, .int .i64 x4.first_]), (15, .ptr (some (h14.size, 0))), (68, vs e_S_tree_Node p0.Nodes), (69, .int .i64 (p0.Nodes.length : Int)), (70, .int .i64 x19), (75, .bool false), (76, .ptr (some (h14.size, 0)))] H (noU_all rfl) (fun fr => by kernel_rfl) ?_
                      intro fr H
                      refine at_stepT (v := .int .i64 x21.Kind) (h1 := h16) (tch' := [(3, h14.size)]) (g.prot) [(2, .int .u8 p2), (3, .int .u8 p3), (9, .vptr [vs e_S_auto_state x4.l_, .int .i64 x4.first_]), (15, .ptr (some (h14.size, 0))), (68, vs e_S_tree_Node p0.Nodes), (69, .int .i64 (p0.Nodes.length : Int)), (70, .int .i64 x19), (75, .bool false), (77, .int .i64 x21.Kind)] H (fun fr => by kernel_rfl) (by kernel_rfl) (fun fr => by kernel_rfl) (fun fr => .of (s_ld (by kernel_rfl) (A.ld1 0 rfl (o := 0) rfl))) (fun fr => by kernel_rfl) ?_
                      intro fr H
                      refine at_seg [(4, []), (5, [])] [(2, .int .u8 p2), (3, .int .u8 p3), (9, .vptr [vs e_S_auto_state x4.l_, .int .i64 x4.first_]), (15, .ptr (some (h14.size, 0))), (68, vs e_S_tree_Node p0.Nodes), (69, .int .i64 (p0.Nodes.length : Int)), (70, .int .i64 x19), (75, .bool false), (79, .bool (x21.Kind == (1 : Int)))] H (noU_all rfl) (fun fr => by kernel_rfl) ?_
                      intro fr H
                      obtain ⟨x23, ho, hm⟩ := bind_some hm
                      refine at_cut [(6, []), (7, []), (8, []), (10, []), (11, []), (9, [11]), (12, []), (13, []), (14, []), (15, [])] (fun fr' h' => Has fr' 103 [(2, .int .u8 p2), (3, .int .u8 p3), (9, .vptr [vs e_S_auto_state x4.l_, .int .i64 x4.first_]), (68, vs e_S_tree_Node p0.Nodes), (69, .int .i64 (p0.Nodes.length : Int)), (70, .int .i64 x19), (75, .bool false), (89, .bool x23)] ∧ HH g h' [.obj h14.size (.cells none 2 (e_S_tree_Node x21)), .obj h.size (.cells none 2 [vs e_S_tree_Node p0.Nodes, .int .i64 p0.Root])] F) ?_ ?_
                      · rcases iteB_some ho with ⟨hb, hm⟩ | ⟨hb, hm⟩
                        · replace H := H.know 79 hb (by kernel_rfl)
                          refine at_seg [(6, [])] [(2, .int .u8 p2), (3, .int .u8 p3), (9, .vptr [vs e_S_auto_state x4.l_, .int .i64 x4.first_]), (15, .ptr (some (h14.size, 0))), (68, vs e_S_tree_Node p0.Nodes), (69, .int .i64 (p0.Nodes.length : Int)), (70, .int .i64 x19), (75, .bool false), (79, .bool true), (80, .ptr (some (h14.size, 6)))] H (noU_all rfl) (fun fr => by kernel_rfl) ?_
                          intro fr H
                          refine at_stepT (v := .agg [.int .u64 x21.Set.w0, .int .u64 x21.Set.w1, .int .u64 x21.Set.w2, .int .u64 x21.Set.w3]) (h1 := h16) (tch' := [(7, h14.size), (3, h14.size)]) (g.prot) [(2, .int .u8 p2), (3, .int .u8 p3), (9, .vptr [vs e_S_auto_state x4.l_, .int .i64 x4.first_]), (15, .ptr (some (h14.size, 0))), (68, vs e_S_tree_Node p0.Nodes), (69, .int .i64 (p0.Nodes.length : Int)), (70, .int .i64 x19), (75, .bool false), (79, .bool true), (81, .agg [.int .u64 x21.Set.w0, .int .u64 x21.Set.w1, .int .u64 x21.Set.w2, .int .u64 x21.Set.w3])] H (fun fr => by kernel_rfl) (by kernel_rfl) (fun fr => by kernel_rfl) (fun fr => .of (s_ldA (by kernel_rfl) (A.ldA 0 rfl (o := 6) (n := 4) ⟨Nat.le_of_ble_eq_true rfl, rfl⟩))) (fun fr => by kernel_rfl) ?_
                          intro fr H
                          refine at_seg [(8, []), (10, [])] [(2, .int .u8 p2), (3, .int .u8 p3), (9, .vptr [vs e_S_auto_state x4.l_, .int .i64 x4.first_]), (68, vs e_S_tree_Node p0.Nodes), (69, .int .i64 (p0.Nodes.length : Int)), (70, .int .i64 x19), (75, .bool false), (79, .bool true), (81, .agg [.int .u64 x21.Set.w0, .int .u64 x21.Set.w1, .int .u64 x21.Set.w2, .int .u64 x21.Set.w3]), (82, .int .u8 p2), (84, .ptr (some (h14.size, 6)))] H (noU_all rfl) (fun fr => by kernel_rfl) ?_
                          intro fr H
                          refine at_stepT (v := .agg [.int .u64 x21.Set.w0, .int .u64 x21.Set.w1, .int .u64 x21.Set.w2, .int .u64 x21.Set.w3]) (h1 := h16) (tch' := [(11, h14.size), (7, h14.size), (3, h14.size)]) (g.prot) [(2, .int .u8 p2), (3, .int .u8 p3), (9, .vptr [vs e_S_auto_state x4.l_, .int .i64 x4.first_]), (68, vs e_S_tree_Node p0.Nodes), (69, .int .i64 (p0.Nodes.length : Int)), (70, .int .i64 x19), (75, .bool false), (79, .bool true), (81, .agg [.int .u64 x21.Set.w0, .int .u64 x21.Set.w1, .int .u64 x21.Set.w2, .int .u64 x21.Set.w3]), (82, .int .u8 p2), (85, .agg [.int .u64 x21.Set.w0, .int .u64 x21.Set.w1, .int .u64 x21.Set.w2, .int .u64 x21.Set.w3])] H (fun fr => by kernel_rfl) (by kernel_rfl) (fun fr => by kernel_rfl) (fun fr => .of (s_ldA (by kernel_rfl) (A.ldA 0 rfl (o := 6) (n := 4) ⟨Nat.le_of_ble_eq_true rfl, rfl⟩))) (fun fr => by kernel_rfl) ?_
                          intro fr H
                          have A1 := A.prot2 0 (pr := [h14.size]) (.cons 0 rfl (by simp [Ck.ids]) .nil)
                          obtain ⟨x24, hx, hm⟩ := bind_some hm
                          obtain ⟨v1, h19, hr, rfl, A1⟩ := ok_class_Set_Has (av := [.agg [.int .u64 x21.Set.w0, .int .u64 x21.Set.w1, .int .u64 x21.Set.w2, .int .u64 x21.Set.w3], .int .u8 p2]) hx (by kernel_rfl) A1
                          replace A : HH g h19 [.obj h14.size (.cells none 2 (e_S_tree_Node x21)), .obj h.size (.cells none 2 [vs e_S_tree_Node p0.Nodes, .int .i64 p0.Root])] F := A.glueP (n := 0) A1
                          refine at_stepT (v := .bool x24) (h1 := h19) (tch' := [(11, h14.size), (7, h14.size), (3, h14.size)]) (h14.size :: g.prot) [(2, .int .u8 p2), (3, .int .u8 p3), (9, .vptr [vs e_S_auto_state x4.l_, .int .i64 x4.first_]), (68, vs e_S_tree_Node p0.Nodes), (69, .int .i64 (p0.Nodes.length : Int)), (70, .int .i64 x19), (75, .bool false), (79, .bool true), (83, .bool x24), (85, .agg [.int .u64 x21.Set.w0, .int .u64 x21.Set.w1, .int .u64 x21.Set.w2, .int .u64 x21.Set.w3])] H (fun fr => by kernel_rfl) (by kernel_rfl) (fun fr => by kernel_rfl) (fun fr => Steps.call (by kernel_rfl) hr) (fun fr => by kernel_rfl) ?_
                          intro fr H
                          refine at_seg [(12, [])] [(2, .int .u8 p2), (3, .int .u8 p3), (9, .vptr [vs e_S_auto_state x4.l_, .int .i64 x4.first_]), (68, vs e_S_tree_Node p0.Nodes), (69, .int .i64 (p0.Nodes.length : Int)), (70, .int .i64 x19), (75, .bool false), (79, .bool true), (83, .bool x24), (85, .agg [.int .u64 x21.Set.w0, .int .u64 x21.Set.w1, .int .u64 x21.Set.w2, .int .u64 x21.Set.w3]), (86, .int .u8 p3)] H (noU_all rfl) (fun fr => by kernel_rfl) ?_
                          intro fr H
                          have A1 := A.cut 0
                          obtain ⟨x25, hx, hm⟩ := bind_some hm
                          obtain ⟨v1, h20, hr, rfl, A1⟩ := ok_class_Set_Has (av := [.agg [.int .u64 x21.Set.w0, .int .u64 x21.Set.w1, .int .u64 x21.Set.w2, .int .u64 x21.Set.w3], .int .u8 p3]) hx (by kernel_rfl) A1
                          replace A : HH g h20 [.obj h14.size (.cells none 2 (e_S_tree_Node x21)), .obj h.size (.cells none 2 [vs e_S_tree_Node p0.Nodes, .int .i64 p0.Root])] F := A.glue0 (n := 0) A1
                          refine at_stepT (v := .bool x25) (h1 := h20) (tch' := [(11, h14.size), (7, h14.size), (3, h14.size)]) (g.prot) [(2, .int .u8 p2), (3, .int .u8 p3), (9, .vptr [vs e_S_auto_state x4.l_, .int .i64 x4.first_]), (68, vs e_S_tree_Node p0.Nodes), (69, .int .i64 (p0.Nodes.length : Int)), (70, .int .i64 x19), (75, .bool false), (79, .bool true), (83, .bool x24), (87, .bool x25)] H (fun fr => by kernel_rfl) (by kernel_rfl) (fun fr => by kernel_rfl) (fun fr => Steps.call (by kernel_rfl) hr) (fun fr => by kernel_rfl) ?_
                          intro fr H
                          refine at_seg [(14, []), (15, [])] [(2, .int .u8 p2), (3, .int .u8 p3), (9, .vptr [vs e_S_auto_state x4.l_, .int .i64 x4.first_]), (68, vs e_S_tree_Node p0.Nodes), (69, .int .i64 (p0.Nodes.length : Int)), (70, .int .i64 x19), (75, .bool false), (89, .bool (!(x24 == x25)))] H (noU_all rfl) (fun fr => by kernel_rfl) ?_
                          intro fr H
                          have e1 := Option.some.inj hm
                          subst e1
                          exact at_nil ⟨H.less _ (fun fr => by kernel_rfl), A⟩
                        · replace H := H.know 79 hb (by kernel_rfl)
                          refine at_seg [(6, []), (7, []), (8, []), (10, []), (11, [])] [(2, .int .u8 p2), (3, .int .u8 p3), (9, .vptr [vs e_S_auto_state x4.l_, .int .i64 x4.first_]), (68, vs e_S_tree_Node p0.Nodes), (69, .int .i64 (p0.Nodes.length : Int)), (70, .int .i64 x19), (75, .bool false), (79, .bool false), (81, .tuple []), (82, .tuple []), (85, .tuple [])] H (noU_all rfl) (fun fr => by kernel_rfl) ?_
                          intro fr H
                          refine at_skip [(2, .int .u8 p2), (3, .int .u8 p3), (9, .vptr [vs e_S_auto_state x4.l_, .int .i64 x4.first_]), (68, vs e_S_tree_Node p0.Nodes), (69, .int .i64 (p0.Nodes.length : Int)), (70, .int .i64 x19), (75, .bool false), (79, .bool false), (83, .tuple []), (85, .tuple [])] H (fun fr => by kernel_rfl) ?_
                          intro fr H
                          refine at_seg [(12, []), (13, []), (14, []), (15, [])] [(2, .int .u8 p2), (3, .int .u8 p3), (9, .vptr [vs e_S_auto_state x4.l_, .int .i64 x4.first_]), (68, vs e_S_tree_Node p0.Nodes), (69, .int .i64 (p0.Nodes.length : Int)), (70, .int .i64 x19), (75, .bool false), (89, .bool false)] H (noU_all rfl) (fun fr => by kernel_rfl) ?_
                          intro fr H
                          have e1 := Option.some.inj hm
                          subst e1
                          exact at_nil ⟨H.less _ (fun fr => by kernel_rfl), A⟩
                      · clear A
                        intro t fr h18 hK
                        obtain ⟨H, A⟩ := hK
                        refine at_seg [(16, [])] [(2, .int .u8 p2), (3, .int .u8 p3), (9, .vptr [vs e_S_auto_state x4.l_, .int .i64 x4.first_]), (68, vs e_S_tree_Node p0.Nodes), (69, .int .i64 (p0.Nodes.length : Int)), (70, .int .i64 x19), (90, .bool x23)] H (noU_all rfl) (fun fr => by kernel_rfl) ?_
                        intro fr H
                        have e1 := Option.some.inj hm
                        subst e1
                        exact at_nil ⟨H.less _ (fun fr => by kernel_rfl), A⟩
                  · clear A
                    intro t fr h17 hK
                    obtain ⟨H, A⟩ := hK
                    refine at_seg [(17, [])] [(2, .int .u8 p2), (3, .int .u8 p3), (9, .vptr [vs e_S_auto_state x4.l_, .int .i64 x4.first_]), (13, .bool x22), (68, vs e_S_tree_Node p0.Nodes), (69, .int .i64 (p0.Nodes.length : Int)), (70, .int .i64 x19)] H (noU_all rfl) (fun fr => by kernel_rfl) ?_
                    intro fr H
                    refine at_nil ?_
                    show AW cfg 7 g (right (right (right (left (left (right (left (right (right (right (right (right (right (right (right (bodyC cfg.P 7)))))))))))))))) fr h17 _
                    refine aw_reg (id := 20) (n := 2) [(0, []), (1, [])] (by kernel_rfl) (by kernel_rfl) ?_
                    refine at_seg [(0, []), (1, [])] [(2, .int .u8 p2), (3, .int .u8 p3), (9, .vptr [vs e_S_auto_state x4.l_, .int .i64 x4.first_]), (13, .bool x22), (68, vs e_S_tree_Node p0.Nodes), (69, .int .i64 (p0.Nodes.length : Int)), (70, .int .i64 (IntKind.i64.wrap (x19 + (1 : Int))))] H (noU_all rfl) (fun fr => by kernel_rfl) ?_
                    intro fr H
                    refine at_nil ?_
                    replace A : HH g h17 [.obj h.size (.cells none 2 [vs e_S_tree_Node p0.Nodes, .int .i64 p0.Root])] F := (HH.dropF (A.front 1 rfl) 1)
                    exact Exists.intro (x22, IntKind.i64.wrap (x19 + (1 : Int))) (And.intro (Option.some.inj hm).symm ⟨x22, IntKind.i64.wrap (x19 + (1 : Int)), rfl, H.less _ (fun fr => by kernel_rfl), A⟩)
                · replace H := H.know 71 hb (by kernel_rfl)
                  refine aw_false (x := .tmp 71) (by kernel_rfl) H (fun fr => by kernel_rfl) ?_
                  refine aw_exit (i := 2) (by kernel_rfl) ?_
                  exact Exists.intro _ (And.intro (Option.some.inj hm).symm (fun e => Or.inl ⟨x18, rfl, e, H.less _ (fun fr => by kernel_rfl), A⟩))
              · clear ho
                clear A
                intro e fr h21 hQ
                rcases hQ with ⟨x20, rfl, rfl, H, A⟩ | hF
                · skip
                  show AW cfg 7 g (right (right (right (right (right (right (right (right (right (bodyC cfg.P 7)))))))))) fr h21 _
                  refine aw_seq (by kernel_rfl) ?_
                  refine aw_reg (id := 21) (n := 12) [(0, []), (1, []), (2, []), (3, []), (4, []), (5, []), (6, []), (7, []), (8, []), (9, []), (10, []), (11, [])] (by kernel_rfl) (by kernel_rfl) ?_
                  refine at_seg [(0, []), (1, [])] [(2, .int .u8 p2), (3, .int .u8 p3), (9, .vptr [vs e_S_auto_state x4.l_, .int .i64 x4.first_]), (93, .bool x20)] H (noU_all rfl) (fun fr => by kernel_rfl) ?_
                  intro fr H
                  obtain ⟨x26, ho, hm⟩ := bind_some hm
                  refine at_cut [(2, []), (3, []), (4, []), (5, []), (6, []), (7, [])] (fun fr' h' => Has fr' 103 [(99, .bool x26)] ∧ HH g h' [.obj h.size (.cells none 2 [vs e_S_tree_Node p0.Nodes, .int .i64 p0.Root])] F) ?_ ?_
                  · rcases iteB_some ho with ⟨hb, hm⟩ | ⟨hb, hm⟩
                    · replace H := H.know 93 hb (by kernel_rfl)
                      refine at_seg [(2, []), (3, []), (4, []), (5, []), (6, []), (7, [])] [(99, .bool true)] H (noU_all rfl) (fun fr => by kernel_rfl) ?_
                      intro fr H
                      have e1 := Option.some.inj hm
                      subst e1
                      exact at_nil ⟨H.less _ (fun fr => by kernel_rfl), A⟩
                    · replace H := H.know 93 hb (by kernel_rfl)
                      refine at_seg [(2, []), (3, []), (4, [])] [(93, .bool false), (94, .vptr [vs e_S_auto_state x4.l_, .int .i64 x4.first_]), (95, .int .u8 p2), (96, .int .u8 p3)] H (noU_all rfl) (fun fr => by kernel_rfl) ?_
                      intro fr H
                      have A1 := A.cut 0
                      obtain ⟨x27, hx, hm⟩ := bind_some hm
                      obtain ⟨v1, h23, hr, rfl, A1⟩ := ok_auto_Auto_Apart (av := [.vptr [vs e_S_auto_state x4.l_, .int .i64 x4.first_], .int .u8 p2, .int .u8 p3]) hx (by kernel_rfl) A1
                      replace A : HH g h23 [.obj h.size (.cells none 2 [vs e_S_tree_Node p0.Nodes, .int .i64 p0.Root])] F := A.glue0 (n := 0) A1
                      refine at_step (v := .bool x27) (h1 := h23) [(93, .bool false), (97, .bool x27)] H (fun fr => by kernel_rfl) (fun fr => Steps.call (by kernel_rfl) hr) ?_
                      intro fr t H
                      refine at_seg [(6, []), (7, [])] [(99, .bool (!x27))] H (noU_all rfl) (fun fr => by kernel_rfl) ?_
                      intro fr H
                      have e1 := Option.some.inj hm
                      subst e1
                      exact at_nil ⟨H.less _ (fun fr => by kernel_rfl), A⟩
                  · clear A
                    intro t fr h22 hK
                    obtain ⟨H, A⟩ := hK
                    refine at_seg [(8, [])] [(100, .bool x26)] H (noU_all rfl) (fun fr => by kernel_rfl) ?_
                    intro fr H
                    obtain ⟨x28, ho, hm⟩ := bind_some hm
                    refine at_cut [(9, []), (10, [])] (fun fr' h' => Has fr' 103 [(102, .bool x28)] ∧ HH g h' [.obj h.size (.cells none 2 [vs e_S_tree_Node p0.Nodes, .int .i64 p0.Root])] F) ?_ ?_
                    · rcases iteB_some ho with ⟨hb, hm⟩ | ⟨hb, hm⟩
                      · replace H := H.know 100 hb (by kernel_rfl)
                        obtain ⟨x29, hx, hm⟩ := bind_some hm
                        refine at_step (v := .bool x29) (h1 := h22) [(100, .bool true), (101, .bool x29)] H (fun fr => by kernel_rfl) (fun fr => Steps.call (by kernel_rfl) (ok_boulterlaw20_awake hx)) ?_
                        intro fr t H
                        refine at_seg [(10, [])] [(102, .bool x29)] H (noU_all rfl) (fun fr => by kernel_rfl) ?_
                        intro fr H
                        have e1 := Option.some.inj hm
                        subst e1
                        exact at_nil ⟨H.less _ (fun fr => by kernel_rfl), A⟩
                      · replace H := H.know 100 hb (by kernel_rfl)
                        refine at_seg [(9, []), (10, [])] [(102, .bool false)] H (noU_all rfl) (fun fr => by kernel_rfl) ?_
                        intro fr H
                        have e1 := Option.some.inj hm
                        subst e1
                        exact at_nil ⟨H.less _ (fun fr => by kernel_rfl), A⟩
                    · clear A
                      intro t fr h24 hK
                      obtain ⟨H, A⟩ := hK
                      refine at_seg [(11, [])] [(8, .bool x28)] H (noU_all rfl) (fun fr => by kernel_rfl) ?_
                      intro fr H
                      refine at_nil ?_
                      show AW cfg 7 g (right (right (right (right (right (right (right (right (right (right (bodyC cfg.P 7))))))))))) fr h24 _
                      refine aw_ret (by kernel_rfl) ?_
                      have e1 := Option.some.inj hm
                      subst e1
                      refine ⟨.inl rfl, .bool x28, resH H (fun fr => by kernel_rfl), ?_⟩
                      replace A : HH g h24 [] F := (HH.dropF A 0)
                      exact ⟨rfl, A⟩
                · exact hF.elim
            · skip
              have e1 := Option.some.inj hm
              subst e1
              refine ⟨.inl rfl, .bool x10, resH H (fun fr => by kernel_rfl), ?_⟩
              replace A : HH g h13 [] F := (HH.dropF A 0)
              exact ⟨rfl, A⟩
            · exact hF.elim
      · skip
        replace A : HH g h4 [.obj h.size (.cells none 2 [vs e_S_tree_Node p0.Nodes, .int .i64 p0.Root])] F := A.glue0 (n := 0) A1
        refine at_step (v := .tuple [.ptr none, .int .i64 x5]) (h1 := h4) [(1, .str p1), (2, .int .u8 p2), (3, .int .u8 p3), (4, .ptr (some (h.size, 0))), (28, .tuple [.ptr none, .int .i64 x5])] H (fun fr => by kernel_rfl) (fun fr => Steps.call (by kernel_rfl) hr) ?_
        intro fr t H
        refine at_seg [(2, []), (3, []), (4, []), (5, []), (6, [])] [(1, .str p1), (2, .int .u8 p2), (3, .int .u8 p3), (4, .ptr (some (h.size, 0))), (9, .ptr none), (10, .int .i64 x5)] H (noU_all rfl) (fun fr => by kernel_rfl) ?_
        intro fr H
        refine at_nil ?_
        show AW cfg 7 g (right (right (right (bodyC cfg.P 7)))) fr h4 _
        refine aw_seq (by kernel_rfl) ?_
        refine aw_seq (by kernel_rfl) ?_
        refine aw_reg (id := 4) (n := 2) [(0, []), (1, [])] (by kernel_rfl) (by kernel_rfl) ?_
        refine at_seg [(0, []), (1, [])] [(1, .str p1), (2, .int .u8 p2), (3, .int .u8 p3), (4, .ptr (some (h.size, 0))), (9, .ptr none), (32, .bool (x5 != (0 : Int)))] H (noU_all rfl) (fun fr => by kernel_rfl) ?_
        intro fr H
        refine at_nil ?_
        show AW cfg 7 g (right (left (right (right (right (bodyC cfg.P 7)))))) fr h4 _
        rcases iteB_some hm with ⟨hb, hm⟩ | ⟨hb, hm⟩
        · replace H := H.know 32 hb (by kernel_rfl)
          refine aw_true (x := .tmp 32) (by kernel_rfl) H (fun fr => by kernel_rfl) ?_
          refine aw_seq (by kernel_rfl) ?_
          refine aw_reg (id := 5) (n := 2) [(0, []), (1, [])] (by kernel_rfl) (by kernel_rfl) ?_
          obtain ⟨x30, hx, hm⟩ := bind_some hm
          refine at_step (v := .bool x30) (h1 := h4) [(33, .bool x30)] H (fun fr => by kernel_rfl) (fun fr => Steps.call (by kernel_rfl) (ok_boulterlaw20_awake hx)) ?_
          intro fr t H
          refine at_seg [(1, [])] [(8, .bool x30)] H (noU_all rfl) (fun fr => by kernel_rfl) ?_
          intro fr H
          refine at_nil ?_
          show AW cfg 7 g (right (left (right (left (right (right (right (bodyC cfg.P 7)))))))) fr h4 _
          refine aw_ret (by kernel_rfl) ?_
          have e1 := Option.some.inj hm
          subst e1
          refine ⟨.inl rfl, .bool x30, resH H (fun fr => by kernel_rfl), ?_⟩
          replace A : HH g h4 [] F := (HH.dropF A 0)
          exact ⟨rfl, A⟩
        · replace H := H.know 32 hb (by kernel_rfl)
          refine aw_false (x := .tmp 32) (by kernel_rfl) H (fun fr => by kernel_rfl) ?_
          refine aw_skip (by kernel_rfl) ?_
          show AW cfg 7 g (right (right (right (right (bodyC cfg.P 7))))) fr h4 _
          refine aw_seq (by kernel_rfl) ?_
          refine aw_seq (by kernel_rfl) ?_
          refine aw_reg (id := 6) (n := 2) [(0, []), (1, [])] (by kernel_rfl) (by kernel_rfl) ?_
          refine at_seg [(0, []), (1, [])] [(1, .str p1), (2, .int .u8 p2), (3, .int .u8 p3), (4, .ptr (some (h.size, 0))), (9, .ptr none), (35, .bool true)] H (noU_all rfl) (fun fr => by kernel_rfl) ?_
          intro fr H
          refine at_nil ?_
          show AW cfg 7 g (right (left (right (right (right (right (bodyC cfg.P 7))))))) fr h4 _
          refine aw_true (x := .tmp 35) (by kernel_rfl) H (fun fr => by kernel_rfl) ?_
          refine aw_seq (by kernel_rfl) ?_
          refine aw_reg (id := 7) (n := 1) [(0, [])] (by kernel_rfl) (by kernel_rfl) ?_
          refine at_seg [(0, [])] [(8, .bool false)] H (noU_all rfl) (fun fr => by kernel_rfl) ?_
          intro fr H
          refine at_nil ?_
          show AW cfg 7 g (right (left (right (left (right (right (right (right (bodyC cfg.P 7))))))))) fr h4 _
          refine aw_ret (by kernel_rfl) ?_
          have e1 := Option.some.inj hm
          subst e1
          refine ⟨.inl rfl, .bool false, resH H (fun fr => by kernel_rfl), ?_⟩
          replace A : HH g h4 [] F := (HH.dropF A 0)
          exact ⟨rfl, A⟩
end Go.Av.L
