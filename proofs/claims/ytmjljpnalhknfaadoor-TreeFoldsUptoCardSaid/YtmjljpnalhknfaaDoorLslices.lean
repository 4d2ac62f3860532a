/-
  Models of functions of package slices, and that the abstract run tells them. Written by lift.py.
-/
import Derived.Test.YtmjljpnalhknfaaDoorLCfg
namespace Go.Abs.L
open Go.Abs
set_option linter.unusedVariables false
/-! ### slices.Clone[[]boulter/tree.Node,boulter/tree.Node] -/
noncomputable def M_slices_Clone_boulter_tree_Node_boulter_tree_Node (g : Gd) (h : AHeap) (p0 : Sl) : Option ((Sl) × AHeap) :=
 iteB p0.r.isNone (some ((⟨none, 0⟩ : Sl), h)) ((some (h.push (.cells (some 30) 2 []))).bind fun h1 => (app 30 10 80 g h1 (⟨some (h.size, 0), 0⟩ : Sl) p0.n (.slice p0.r p0.n)).bind fun (x1, h2) => some (x1, h2))
theorem ok_slices_Clone_boulter_tree_Node_boulter_tree_Node {g : Gd} {h h' : AHeap} {p0 : Sl} {r0 : Sl} (hm : M_slices_Clone_boulter_tree_Node_boulter_tree_Node g h p0 = some (r0, h')) : Runs cfg g h 25 [.slice p0.r p0.n] (.slice r0.r r0.n) h' := by
  refine runs1 (by kernel_rfl) (body_of (n := 8) (rs := [.tmp 2]) (by kernel_rfl) ?_)
  unfold M_slices_Clone_boulter_tree_Node_boulter_tree_Node at hm
  refine start (n := 8) [(0, .slice p0.r p0.n)] (by kernel_rfl) (by kernel_rfl) ?_
  intro fr H
  refine aw_seq (by kernel_rfl) ?_
  refine aw_reg (id := 0) (n := 1) [(0, [])] (by kernel_rfl) (by kernel_rfl) ?_
  refine at_seg [(0, [])] [(0, .slice p0.r p0.n)] H (noU_all rfl) (fun fr => by kernel_rfl) ?_
  intro fr H
  refine at_nil ?_
  show AW cfg 25 g (right (bodyC cfg.P 25)) fr h _
  refine aw_seq (by kernel_rfl) ?_
  refine aw_seq (by kernel_rfl) ?_
  refine aw_reg (id := 1) (n := 2) [(0, []), (1, [])] (by kernel_rfl) (by kernel_rfl) ?_
  refine at_seg [(0, [])] [(0, .slice p0.r p0.n), (3, .slice p0.r p0.n)] H (noU_all rfl) (fun fr => by kernel_rfl) ?_
  intro fr H
  refine at_step (v := .bool p0.r.isNone) (h1 := h) [(0, .slice p0.r p0.n), (4, .bool p0.r.isNone)] H (fun fr => by kernel_rfl) (fun fr => .of (s_nilT (by kernel_rfl))) ?_
  intro fr t H
  refine at_nil ?_
  show AW cfg 25 g (right (left (right (bodyC cfg.P 25)))) fr h _
  rcases iteB_some hm with ⟨hb, hm⟩ | ⟨hb, hm⟩
  · replace H := H.know 4 hb (by kernel_rfl)
    refine aw_true (x := .tmp 4) (by kernel_rfl) H (fun fr => by kernel_rfl) ?_
    refine aw_seq (by kernel_rfl) ?_
    refine aw_reg (id := 2) (n := 1) [(0, [])] (by kernel_rfl) (by kernel_rfl) ?_
    refine at_seg [(0, [])] [(2, .slice none 0)] H (noU_all rfl) (fun fr => by kernel_rfl) ?_
    intro fr H
    refine at_nil ?_
    show AW cfg 25 g (right (left (right (left (right (bodyC cfg.P 25)))))) fr h _
    refine aw_ret (by kernel_rfl) ?_
    obtain ⟨e1, e2⟩ := inj2 hm
    subst e2
    subst e1
    exact (done_ret H (fun fr => by kernel_rfl) rfl : doneQ cfg.P _ _ _ _ fr _)
  · replace H := H.know 4 hb (by kernel_rfl)
    refine aw_false (x := .tmp 4) (by kernel_rfl) H (fun fr => by kernel_rfl) ?_
    refine aw_skip (by kernel_rfl) ?_
    show AW cfg 25 g (right (right (bodyC cfg.P 25))) fr h _
    refine aw_seq (by kernel_rfl) ?_
    refine aw_reg (id := 3) (n := 4) [(0, []), (1, []), (2, []), (3, [])] (by kernel_rfl) (by kernel_rfl) ?_
    obtain ⟨h1, hx, hm⟩ := bind_some hm
    refine at_step (v := .slice (some (h.size, 0)) 0) (h1 := h1) [(0, .slice p0.r p0.n), (5, .slice (some (h.size, 0)) 0)] H (fun fr => by kernel_rfl) (fun fr => .of (s_n' (by kernel_rfl) hx)) ?_
    intro fr t H
    refine at_seg [(1, [])] [(5, .slice (some (h.size, 0)) 0), (6, .slice p0.r p0.n)] H (noU_all rfl) (fun fr => by kernel_rfl) ?_
    intro fr H
    obtain ⟨⟨x1, h2⟩, hx, hm⟩ := bind_some hm
    refine at_step (v := .slice x1.r x1.n) (h1 := h2) [(7, .slice x1.r x1.n)] H (fun fr => by kernel_rfl) (fun fr => .of (s_app (s := (⟨some (h.size, 0), 0⟩ : Sl)) (by kernel_rfl) hx)) ?_
    intro fr t H
    refine at_seg [(3, [])] [(2, .slice x1.r x1.n)] H (noU_all rfl) (fun fr => by kernel_rfl) ?_
    intro fr H
    refine at_nil ?_
    show AW cfg 25 g (right (right (right (bodyC cfg.P 25)))) fr h2 _
    refine aw_ret (by kernel_rfl) ?_
    obtain ⟨e1, e2⟩ := inj2 hm
    subst e2
    subst e1
    exact (done_ret H (fun fr => by kernel_rfl) rfl : doneQ cfg.P _ _ _ _ fr _)
end Go.Abs.L
