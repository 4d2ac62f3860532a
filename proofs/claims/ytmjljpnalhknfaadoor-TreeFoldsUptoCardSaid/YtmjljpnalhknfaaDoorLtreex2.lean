/-
  Models of functions of package tree, and that the abstract run tells them. Written by lift.py.
-/
import Derived.Test.YtmjljpnalhknfaaDoorLCfg
import Derived.Test.YtmjljpnalhknfaaDoorLclass
import Derived.Test.YtmjljpnalhknfaaDoorLslices
namespace Go.Abs.L
open Go.Abs
set_option linter.unusedVariables false
/-! ### (boulter/tree.Tree).Fold -/
noncomputable def M_tree_Tree_Fold_L0 (g : Gd) (h2 : AHeap) (x4 : Sl) (s : Int × AHeap) : Option ((Int × AHeap) ⊕ ((AHeap))) :=
  match s with
  | (x6, h6) => iteB (decide (x6 < ((x4.n : Nat) : Int))) ((ixL x4 10 x6).bind fun a1 => (ldA h6 (a1.1, a1.2) 10).bind fun x7 => (some (h6.push (.cells none 2 [.int .i64 (0 : Int), .int .i64 (0 : Int), .int .i64 (0 : Int), .int .i64 (0 : Int), .int .i64 (0 : Int), .int .i64 (0 : Int), .int .u64 (0 : Int), .int .u64 (0 : Int), .int .u64 (0 : Int), .int .u64 (0 : Int)]))).bind fun h7 => (stG 10 g h7 (h6.size, 0) x7).bind fun h8 => (ldL h8 (h2.size, 0)).bind fun x8 => (ldA h8 (h6.size, 6) 4).bind fun x9 => (M_class_Set_Fold (⟨g.floor, h2.size :: g.prot⟩ : Gd) h8 x9).bind fun (x10, h9) => (ixL x8 10 x6).bind fun a2 => (stG 4 g h9 (a2.1, a2.2 + 6) x10).bind fun h10 => some (.inl (IntKind.i64.wrap (x6 + (1 : Int)), h10))) (some (.inr h6))
noncomputable def M_tree_Tree_Fold (g : Gd) (h : AHeap) (p0 : List AVal) : Option (((List AVal)) × AHeap) :=
 need (p0.all AVal.one) <| (some (h.push (.cells none 2 p0))).bind fun h1 => (some (h1.push (.cells none 2 [.slice none 0, .int .i64 (0 : Int)]))).bind fun h2 => (ldL h2 (h.size, 0)).bind fun x1 => (ldI h2 (h.size, 1) .i64).bind fun x2 => (some (h2.push (.cells none 2 [.slice none 0, .int .i64 (0 : Int)]))).bind fun h3 => (M_slices_Clone_boulter_tree_Node_boulter_tree_Node (⟨g.floor, h2.size :: h.size :: g.prot⟩ : Gd) h3 x1).bind fun (x3, h4) => (stG 2 g h4 (h2.size, 0) [.slice x3.r x3.n, .int .i64 x2]).bind fun h5 => (ldL h5 (h2.size, 0)).bind fun x4 => (loop (M_tree_Tree_Fold_L0 g h2 x4) ((0 : Int), h5)).bind fun h11 => (ldA h11 (h2.size, 0) 2).bind fun x11 => (stG 2 g h11 (h1.size, 0) x11).bind fun h12 => (ldA h12 (h1.size, 0) 2).bind fun x12 => some (x12, h12)
theorem ok_tree_Tree_Fold {g : Gd} {h h' : AHeap} {p0 : List AVal} {r0 : List AVal} (hm : M_tree_Tree_Fold g h p0 = some (r0, h')) : Runs cfg g h 17 [.agg p0] (.agg r0) h' := by
  refine runs1 (by kernel_rfl) (body_of (n := 30) (rs := [.cell 2 25]) (by kernel_rfl) ?_)
  unfold M_tree_Tree_Fold at hm
  refine start (n := 30) [(0, .agg p0)] (by kernel_rfl) (by kernel_rfl) ?_
  intro fr H
  refine aw_seq (by kernel_rfl) ?_
  refine aw_reg (id := 0) (n := 2) [(0, []), (1, [])] (by kernel_rfl) (by kernel_rfl) ?_
  obtain ⟨hb, hm⟩ := need_some hm
  obtain ⟨h1, hx, hm⟩ := bind_some hm
  refine at_step (v := .ptr (some (h.size, 0))) (h1 := h1) [(1, .ptr (some (h.size, 0)))] H (fun fr => by kernel_rfl) (fun fr => .of (s_boxG (by kernel_rfl) hb hx)) ?_
  intro fr t H
  obtain ⟨h2, hx, hm⟩ := bind_some hm
  refine at_step (v := .ptr (some (h1.size, 0))) (h1 := h2) [(1, .ptr (some (h.size, 0))), (2, .ptr (some (h1.size, 0)))] H (fun fr => by kernel_rfl) (fun fr => .of (s_n' (by kernel_rfl) hx)) ?_
  intro fr t H
  refine at_nil ?_
  show AW cfg 17 g (right (bodyC cfg.P 17)) fr h2 _
  refine aw_seq (by kernel_rfl) ?_
  refine aw_draw (id := 1) (n := 8) (by kernel_rfl) [(0, []), (1, []), (3, []), (4, []), (6, []), (2, [4, 6]), (5, []), (7, [])] (by kernel_rfl) ?_
  refine at_seg [(0, [])] [(1, .ptr (some (h.size, 0))), (2, .ptr (some (h1.size, 0))), (6, .ptr (some (h.size, 0)))] H (noU_all rfl) (fun fr => by kernel_rfl) ?_
  intro fr H
  obtain ⟨x1, hx, hm⟩ := bind_some hm
  refine at_stepT (v := .slice x1.r x1.n) (h1 := h2) (tch' := [(1, h.size)]) (g.prot) [(1, .ptr (some (h.size, 0))), (2, .ptr (some (h1.size, 0))), (7, .slice x1.r x1.n)] H (fun fr => by kernel_rfl) (by kernel_rfl) (fun fr => by kernel_rfl) (fun fr => .of (s_ld (by kernel_rfl) (ldL_eq hx))) ?_
  intro fr H
  refine at_seg [(3, [])] [(2, .ptr (some (h1.size, 0))), (7, .slice x1.r x1.n), (9, .ptr (some (h.size, 1)))] H (noU_all rfl) (fun fr => by kernel_rfl) ?_
  intro fr H
  obtain ⟨x2, hx, hm⟩ := bind_some hm
  refine at_stepT (v := .int .i64 x2) (h1 := h2) (tch' := [(4, h.size), (1, h.size)]) (g.prot) [(2, .ptr (some (h1.size, 0))), (7, .slice x1.r x1.n), (10, .int .i64 x2)] H (fun fr => by kernel_rfl) (by kernel_rfl) (fun fr => by kernel_rfl) (fun fr => .of (s_ld (by kernel_rfl) (ldI_eq hx))) ?_
  intro fr H
  obtain ⟨h3, hx, hm⟩ := bind_some hm
  refine at_stepT (v := .ptr (some (h2.size, 0))) (h1 := h3) (tch' := [(6, h2.size), (4, h.size), (1, h.size)]) (g.prot) [(2, .ptr (some (h1.size, 0))), (3, .ptr (some (h2.size, 0))), (7, .slice x1.r x1.n), (10, .int .i64 x2)] H (fun fr => by kernel_rfl) (by kernel_rfl) (fun fr => by kernel_rfl) (fun fr => .of (s_n' (by kernel_rfl) hx)) ?_
  intro fr H
  obtain ⟨⟨x3, h4⟩, hx, hm⟩ := bind_some hm
  refine at_stepT (v := .slice x3.r x3.n) (h1 := h4) (tch' := [(6, h2.size), (4, h.size), (1, h.size)]) (h2.size :: h.size :: g.prot) [(2, .ptr (some (h1.size, 0))), (3, .ptr (some (h2.size, 0))), (8, .slice x3.r x3.n), (10, .int .i64 x2)] H (fun fr => by kernel_rfl) (by kernel_rfl) (fun fr => by kernel_rfl) (fun fr => Steps.call (by kernel_rfl) (ok_slices_Clone_boulter_tree_Node_boulter_tree_Node hx)) ?_
  intro fr H
  refine at_seg [(5, [])] [(2, .ptr (some (h1.size, 0))), (3, .ptr (some (h2.size, 0))), (11, .agg [.slice x3.r x3.n, .int .i64 x2])] H (noU_all rfl) (fun fr => by kernel_rfl) ?_
  intro fr H
  obtain ⟨h5, hx, hm⟩ := bind_some hm
  refine at_stepT (v := .tuple []) (h1 := h5) (tch' := [(6, h2.size), (4, h.size), (1, h.size)]) (g.prot) [(2, .ptr (some (h1.size, 0))), (3, .ptr (some (h2.size, 0)))] H (fun fr => by kernel_rfl) (by kernel_rfl) (fun fr => by kernel_rfl) (fun fr => .of (s_stG (by kernel_rfl) hx)) ?_
  intro fr H
  refine at_nil ?_
  show AW cfg 17 g (right (right (bodyC cfg.P 17))) fr h5 _
  refine aw_seq (by kernel_rfl) ?_
  refine aw_seq (by kernel_rfl) ?_
  refine aw_reg (id := 2) (n := 4) [(0, []), (1, []), (2, []), (3, [])] (by kernel_rfl) (by kernel_rfl) ?_
  refine at_seg [(0, [])] [(2, .ptr (some (h1.size, 0))), (3, .ptr (some (h2.size, 0))), (12, .ptr (some (h2.size, 0)))] H (noU_all rfl) (fun fr => by kernel_rfl) ?_
  intro fr H
  obtain ⟨x4, hx, hm⟩ := bind_some hm
  refine at_step (v := .slice x4.r x4.n) (h1 := h5) [(2, .ptr (some (h1.size, 0))), (3, .ptr (some (h2.size, 0))), (13, .slice x4.r x4.n)] H (fun fr => by kernel_rfl) (fun fr => .of (s_ld (by kernel_rfl) (ldL_eq hx))) ?_
  intro fr t H
  refine at_seg [(2, []), (3, [])] [(2, .ptr (some (h1.size, 0))), (3, .ptr (some (h2.size, 0))), (13, .slice x4.r x4.n), (14, .int .i64 ((x4.n : Nat) : Int)), (15, .int .i64 (0 : Int))] H (noU_all rfl) (fun fr => by kernel_rfl) ?_
  intro fr H
  refine at_nil ?_
  show AW cfg 17 g (right (left (right (right (bodyC cfg.P 17))))) fr h5 _
  refine aw_block (id := 0) (by kernel_rfl) ?_
  obtain ⟨o1, ho, hm⟩ := bind_some hm
  refine aw_mono (Q' := fun e fr' h' => (e = .exit 0 ∧ h' = o1 ∧ h' = h' ∧ Has fr' 30 [(2, .ptr (some (h1.size, 0))), (3, .ptr (some (h2.size, 0)))]) ∨ False) ?_ ?_
  · refine aw_loop (by kernel_rfl) (fun (s : Int × AHeap) fr' h' => ∃ (x6 : Int), (x6, h') = s ∧ h' = h' ∧ Has fr' 30 [(2, .ptr (some (h1.size, 0))), (3, .ptr (some (h2.size, 0))), (13, .slice x4.r x4.n), (14, .int .i64 ((x4.n : Nat) : Int)), (15, .int .i64 x6)]) ho ⟨(0 : Int), rfl, rfl, H.less _ (fun fr => by kernel_rfl)⟩ ?_
    clear ho hm H
    intro s q fr h6 hI hm
    obtain ⟨x6, rfl, _, H⟩ := hI
    unfold M_tree_Tree_Fold_L0 at hm
    refine aw_seq (by kernel_rfl) ?_
    refine aw_reg (id := 3) (n := 1) [(0, [])] (by kernel_rfl) (by kernel_rfl) ?_
    refine at_seg [(0, [])] [(2, .ptr (some (h1.size, 0))), (3, .ptr (some (h2.size, 0))), (13, .slice x4.r x4.n), (14, .int .i64 ((x4.n : Nat) : Int)), (15, .int .i64 x6), (16, .bool (decide (x6 < ((x4.n : Nat) : Int))))] H (noU_all rfl) (fun fr => by kernel_rfl) ?_
    intro fr H
    refine at_nil ?_
    show AW cfg 17 g (right (left (left (right (left (right (right (bodyC cfg.P 17)))))))) fr h6 _
    refine aw_seq (by kernel_rfl) ?_
    rcases iteB_some hm with ⟨hb, hm⟩ | ⟨hb, hm⟩
    · replace H := H.know 16 hb (by kernel_rfl)
      refine aw_true (x := .tmp 16) (by kernel_rfl) H (fun fr => by kernel_rfl) ?_
      refine aw_skip (by kernel_rfl) ?_
      show AW cfg 17 g (right (right (left (left (right (left (right (right (bodyC cfg.P 17))))))))) fr h6 _
      refine aw_seq (by kernel_rfl) ?_
      refine aw_block (id := 1) (by kernel_rfl) ?_
      refine aw_seq (by kernel_rfl) ?_
      refine aw_reg (id := 4) (n := 6) [(0, []), (1, []), (2, []), (3, []), (4, []), (5, [])] (by kernel_rfl) (by kernel_rfl) ?_
      refine at_seg [(0, [])] [(2, .ptr (some (h1.size, 0))), (3, .ptr (some (h2.size, 0))), (13, .slice x4.r x4.n), (14, .int .i64 ((x4.n : Nat) : Int)), (15, .int .i64 x6), (17, .int .i64 x6)] H (noU_all rfl) (fun fr => by kernel_rfl) ?_
      intro fr H
      obtain ⟨a1, hx, hm⟩ := bind_some hm
      refine at_step (v := .ptr (some a1)) (h1 := h6) [(2, .ptr (some (h1.size, 0))), (3, .ptr (some (h2.size, 0))), (13, .slice x4.r x4.n), (14, .int .i64 ((x4.n : Nat) : Int)), (15, .int .i64 x6), (17, .int .i64 x6), (18, .ptr (some (a1.1, a1.2)))] H (fun fr => by kernel_rfl) (fun fr => .of (s_ixL (s := x4) (by kernel_rfl) hx)) ?_
      intro fr t H
      obtain ⟨x7, hx, hm⟩ := bind_some hm
      refine at_step (v := .agg x7) (h1 := h6) [(2, .ptr (some (h1.size, 0))), (3, .ptr (some (h2.size, 0))), (13, .slice x4.r x4.n), (14, .int .i64 ((x4.n : Nat) : Int)), (15, .int .i64 x6), (17, .int .i64 x6), (19, .agg x7)] H (fun fr => by kernel_rfl) (fun fr => .of (s_ldA (by kernel_rfl) hx)) ?_
      intro fr t H
      obtain ⟨h7, hx, hm⟩ := bind_some hm
      refine at_step (v := .ptr (some (h6.size, 0))) (h1 := h7) [(2, .ptr (some (h1.size, 0))), (3, .ptr (some (h2.size, 0))), (5, .ptr (some (h6.size, 0))), (13, .slice x4.r x4.n), (14, .int .i64 ((x4.n : Nat) : Int)), (15, .int .i64 x6), (17, .int .i64 x6), (19, .agg x7)] H (fun fr => by kernel_rfl) (fun fr => .of (s_n' (by kernel_rfl) hx)) ?_
      intro fr t H
      refine at_seg [(4, [])] [(2, .ptr (some (h1.size, 0))), (3, .ptr (some (h2.size, 0))), (4, .int .i64 x6), (5, .ptr (some (h6.size, 0))), (13, .slice x4.r x4.n), (14, .int .i64 ((x4.n : Nat) : Int)), (15, .int .i64 x6), (19, .agg x7)] H (noU_all rfl) (fun fr => by kernel_rfl) ?_
      intro fr H
      obtain ⟨h8, hx, hm⟩ := bind_some hm
      refine at_step (v := .tuple []) (h1 := h8) [(2, .ptr (some (h1.size, 0))), (3, .ptr (some (h2.size, 0))), (4, .int .i64 x6), (5, .ptr (some (h6.size, 0))), (13, .slice x4.r x4.n), (14, .int .i64 ((x4.n : Nat) : Int)), (15, .int .i64 x6)] H (fun fr => by kernel_rfl) (fun fr => .of (s_stG (by kernel_rfl) hx)) ?_
      intro fr t H
      refine at_nil ?_
      show AW cfg 17 g (right (left (left (right (right (left (left (right (left (right (right (bodyC cfg.P 17)))))))))))) fr h8 _
      refine aw_draw (id := 5) (n := 9) (by kernel_rfl) [(0, []), (1, []), (2, []), (3, []), (4, []), (5, [1]), (6, []), (7, []), (8, [])] (by kernel_rfl) ?_
      refine at_seg [(0, [])] [(2, .ptr (some (h1.size, 0))), (3, .ptr (some (h2.size, 0))), (4, .int .i64 x6), (5, .ptr (some (h6.size, 0))), (13, .slice x4.r x4.n), (14, .int .i64 ((x4.n : Nat) : Int)), (15, .int .i64 x6), (20, .ptr (some (h2.size, 0)))] H (noU_all rfl) (fun fr => by kernel_rfl) ?_
      intro fr H
      obtain ⟨x8, hx, hm⟩ := bind_some hm
      refine at_stepT (v := .slice x8.r x8.n) (h1 := h8) (tch' := [(1, h2.size)]) (g.prot) [(2, .ptr (some (h1.size, 0))), (3, .ptr (some (h2.size, 0))), (4, .int .i64 x6), (5, .ptr (some (h6.size, 0))), (13, .slice x4.r x4.n), (14, .int .i64 ((x4.n : Nat) : Int)), (15, .int .i64 x6), (21, .slice x8.r x8.n)] H (fun fr => by kernel_rfl) (by kernel_rfl) (fun fr => by kernel_rfl) (fun fr => .of (s_ld (by kernel_rfl) (ldL_eq hx))) ?_
      intro fr H
      refine at_seg [(2, []), (3, [])] [(2, .ptr (some (h1.size, 0))), (3, .ptr (some (h2.size, 0))), (13, .slice x4.r x4.n), (14, .int .i64 ((x4.n : Nat) : Int)), (15, .int .i64 x6), (21, .slice x8.r x8.n), (22, .int .i64 x6), (23, .ptr (some (h6.size, 6)))] H (noU_all rfl) (fun fr => by kernel_rfl) ?_
      intro fr H
      obtain ⟨x9, hx, hm⟩ := bind_some hm
      refine at_stepT (v := .agg x9) (h1 := h8) (tch' := [(4, h6.size), (1, h2.size)]) (g.prot) [(2, .ptr (some (h1.size, 0))), (3, .ptr (some (h2.size, 0))), (13, .slice x4.r x4.n), (14, .int .i64 ((x4.n : Nat) : Int)), (15, .int .i64 x6), (21, .slice x8.r x8.n), (22, .int .i64 x6), (24, .agg x9)] H (fun fr => by kernel_rfl) (by kernel_rfl) (fun fr => by kernel_rfl) (fun fr => .of (s_ldA (by kernel_rfl) hx)) ?_
      intro fr H
      obtain ⟨⟨x10, h9⟩, hx, hm⟩ := bind_some hm
      refine at_stepT (v := .agg x10) (h1 := h9) (tch' := [(4, h6.size), (1, h2.size)]) (h2.size :: g.prot) [(2, .ptr (some (h1.size, 0))), (3, .ptr (some (h2.size, 0))), (13, .slice x4.r x4.n), (14, .int .i64 ((x4.n : Nat) : Int)), (15, .int .i64 x6), (21, .slice x8.r x8.n), (22, .int .i64 x6), (25, .agg x10)] H (fun fr => by kernel_rfl) (by kernel_rfl) (fun fr => by kernel_rfl) (fun fr => Steps.call (by kernel_rfl) (ok_class_Set_Fold hx)) ?_
      intro fr H
      obtain ⟨a2, hx, hm⟩ := bind_some hm
      refine at_stepT (v := .ptr (some a2)) (h1 := h9) (tch' := [(4, h6.size), (1, h2.size)]) (g.prot) [(2, .ptr (some (h1.size, 0))), (3, .ptr (some (h2.size, 0))), (13, .slice x4.r x4.n), (14, .int .i64 ((x4.n : Nat) : Int)), (15, .int .i64 x6), (25, .agg x10), (26, .ptr (some (a2.1, a2.2)))] H (fun fr => by kernel_rfl) (by kernel_rfl) (fun fr => by kernel_rfl) (fun fr => .of (s_ixL (s := x8) (by kernel_rfl) hx)) ?_
      intro fr H
      refine at_seg [(7, [])] [(2, .ptr (some (h1.size, 0))), (3, .ptr (some (h2.size, 0))), (13, .slice x4.r x4.n), (14, .int .i64 ((x4.n : Nat) : Int)), (15, .int .i64 x6), (25, .agg x10), (27, .ptr (some (a2.1, a2.2 + 6)))] H (noU_all rfl) (fun fr => by kernel_rfl) ?_
      intro fr H
      obtain ⟨h10, hx, hm⟩ := bind_some hm
      refine at_stepT (v := .tuple []) (h1 := h10) (tch' := [(4, h6.size), (1, h2.size)]) (g.prot) [(2, .ptr (some (h1.size, 0))), (3, .ptr (some (h2.size, 0))), (13, .slice x4.r x4.n), (14, .int .i64 ((x4.n : Nat) : Int)), (15, .int .i64 x6)] H (fun fr => by kernel_rfl) (by kernel_rfl) (fun fr => by kernel_rfl) (fun fr => .of (s_stG (by kernel_rfl) hx)) ?_
      intro fr H
      refine at_nil ?_
      show AW cfg 17 g (right (right (right (left (left (right (left (right (right (bodyC cfg.P 17)))))))))) fr h10 _
      refine aw_reg (id := 6) (n := 2) [(0, []), (1, [])] (by kernel_rfl) (by kernel_rfl) ?_
      refine at_seg [(0, []), (1, [])] [(2, .ptr (some (h1.size, 0))), (3, .ptr (some (h2.size, 0))), (13, .slice x4.r x4.n), (14, .int .i64 ((x4.n : Nat) : Int)), (15, .int .i64 (IntKind.i64.wrap (x6 + (1 : Int))))] H (noU_all rfl) (fun fr => by kernel_rfl) ?_
      intro fr H
      refine at_nil ?_
      exact Exists.intro (IntKind.i64.wrap (x6 + (1 : Int)), h10) (And.intro (Option.some.inj hm).symm ⟨IntKind.i64.wrap (x6 + (1 : Int)), rfl, rfl, H.less _ (fun fr => by kernel_rfl)⟩)
    · replace H := H.know 16 hb (by kernel_rfl)
      refine aw_false (x := .tmp 16) (by kernel_rfl) H (fun fr => by kernel_rfl) ?_
      refine aw_exit (i := 0) (by kernel_rfl) ?_
      exact Exists.intro _ (And.intro (Option.some.inj hm).symm (fun e => Or.inl ⟨rfl, e, rfl, H.less _ (fun fr => by kernel_rfl)⟩))
  · clear ho
    intro e fr h11 hQ
    rcases hQ with ⟨rfl, rfl, _, H⟩ | hF
    · skip
      show AW cfg 17 g (right (right (right (bodyC cfg.P 17)))) fr h11 _
      refine aw_seq (by kernel_rfl) ?_
      refine aw_reg (id := 7) (n := 2) [(0, []), (1, [])] (by kernel_rfl) (by kernel_rfl) ?_
      obtain ⟨x11, hx, hm⟩ := bind_some hm
      refine at_step (v := .agg x11) (h1 := h11) [(2, .ptr (some (h1.size, 0))), (29, .agg x11)] H (fun fr => by kernel_rfl) (fun fr => .of (s_ldA (by kernel_rfl) hx)) ?_
      intro fr t H
      obtain ⟨h12, hx, hm⟩ := bind_some hm
      refine at_step (v := .tuple []) (h1 := h12) [(2, .ptr (some (h1.size, 0)))] H (fun fr => by kernel_rfl) (fun fr => .of (s_stG (by kernel_rfl) hx)) ?_
      intro fr t H
      refine at_nil ?_
      show AW cfg 17 g (right (right (right (right (bodyC cfg.P 17))))) fr h12 _
      refine aw_ret (by kernel_rfl) ?_
      obtain ⟨x12, hy0, hm⟩ := bind_some hm
      obtain ⟨e1, e2⟩ := inj2 hm
      subst e2
      subst e1
      exact (done_ret H (fun fr => resL_one (.cell (by kernel_rfl) (load_ldA (by kernel_rfl) (by kernel_rfl) hy0) .nil)) rfl : doneQ cfg.P _ _ _ _ fr _)
    · exact hF.elim
end Go.Abs.L
