/-
  Models of functions of package tree, and that the abstract run tells them. Written by lift.py.
-/
import Derived.Test.YtmjljpnalhknfaaDoorLCfg
import Derived.Test.YtmjljpnalhknfaaDoorLclass
import Derived.Test.YtmjljpnalhknfaaDoorLtree
namespace Go.Abs.L
open Go.Abs
set_option linter.unusedVariables false
structure SC_tree_asker_does_1_s0 where
  M_tree_asker_does_1_s0 : Gd → AHeap → Int → Int → Int → (Nat × Nat) → Option ((Bool) × AHeap)
  M_tree_asker_asks : Gd → AHeap → (Option (Nat × Nat)) → (List AVal) → Option ((Bool) × AHeap)
  M_tree_asker_does : Gd → AHeap → (Option (Nat × Nat)) → (List AVal) → Option ((Bool) × AHeap)
  M_tree_asker_cut_s0 : Gd → AHeap → (Option (Nat × Nat)) → (List AVal) → (Nat × Nat) → (Nat × Nat) → (Nat × Nat) → (Nat × Nat) → (Nat × Nat) → (Nat × Nat) → Option ((Bool) × AHeap)
  M_tree_asker_does_2_s0 : Gd → AHeap → Int → (Nat × Nat) → (Nat × Nat) → (Nat × Nat) → Option ((Bool) × AHeap)
  M_tree_asker_does_3_s0 : Gd → AHeap → Int → (Nat × Nat) → (Nat × Nat) → (Nat × Nat) → Option ((Bool) × AHeap)
  M_tree_asker_repeats : Gd → AHeap → (Option (Nat × Nat)) → (List AVal) → (List AVal) → Option ((Bool) × AHeap)
structure OkSC_tree_asker_does_1_s0 (S : SC_tree_asker_does_1_s0) : Prop where
  ok_tree_asker_does_1_s0 : ∀ {g : Gd} {h h' : AHeap} {p0 : Int} {p1 : Int} {p2 : Int} {p3 : Nat × Nat} {r0 : Bool}, S.M_tree_asker_does_1_s0 g h p0 p1 p2 p3 = some (r0, h') → Runs cfg g h 37 [.int .i64 p0, .int .i64 p1, .int .i64 p2, .ptr (some (p3.1, p3.2))] (.bool r0) h'
  ok_tree_asker_asks : ∀ {g : Gd} {h h' : AHeap} {p0 : Option (Nat × Nat)} {p1 : List AVal} {r0 : Bool}, S.M_tree_asker_asks g h p0 p1 = some (r0, h') → Runs cfg g h 23 [.ptr p0, .agg p1] (.bool r0) h'
  ok_tree_asker_does : ∀ {g : Gd} {h h' : AHeap} {p0 : Option (Nat × Nat)} {p1 : List AVal} {r0 : Bool}, S.M_tree_asker_does g h p0 p1 = some (r0, h') → Runs cfg g h 32 [.ptr p0, .agg p1] (.bool r0) h'
  ok_tree_asker_cut_s0 : ∀ {g : Gd} {h h' : AHeap} {p0 : Option (Nat × Nat)} {p1 : List AVal} {p2c0 : Nat × Nat} {p2c1 : Nat × Nat} {p2c2 : Nat × Nat} {p3c0 : Nat × Nat} {p3c1 : Nat × Nat} {p3c2 : Nat × Nat} {r0 : Bool}, S.M_tree_asker_cut_s0 g h p0 p1 p2c0 p2c1 p2c2 p3c0 p3c1 p3c2 = some (r0, h') → Runs cfg g h 38 [.ptr p0, .agg p1, .func (.func 39) [] [.ptr (some (p2c0.1, p2c0.2)), .ptr (some (p2c1.1, p2c1.2)), .ptr (some (p2c2.1, p2c2.2))], .func (.func 40) [] [.ptr (some (p3c0.1, p3c0.2)), .ptr (some (p3c1.1, p3c1.2)), .ptr (some (p3c2.1, p3c2.2))]] (.bool r0) h'
  ok_tree_asker_does_2_s0 : ∀ {g : Gd} {h h' : AHeap} {p0 : Int} {p1 : Nat × Nat} {p2 : Nat × Nat} {p3 : Nat × Nat} {r0 : Bool}, S.M_tree_asker_does_2_s0 g h p0 p1 p2 p3 = some (r0, h') → Runs cfg g h 39 [.int .i64 p0, .ptr (some (p1.1, p1.2)), .ptr (some (p2.1, p2.2)), .ptr (some (p3.1, p3.2))] (.bool r0) h'
  ok_tree_asker_does_3_s0 : ∀ {g : Gd} {h h' : AHeap} {p0 : Int} {p1 : Nat × Nat} {p2 : Nat × Nat} {p3 : Nat × Nat} {r0 : Bool}, S.M_tree_asker_does_3_s0 g h p0 p1 p2 p3 = some (r0, h') → Runs cfg g h 40 [.int .i64 p0, .ptr (some (p1.1, p1.2)), .ptr (some (p2.1, p2.2)), .ptr (some (p3.1, p3.2))] (.bool r0) h'
  ok_tree_asker_repeats : ∀ {g : Gd} {h h' : AHeap} {p0 : Option (Nat × Nat)} {p1 : List AVal} {p2 : List AVal} {r0 : Bool}, S.M_tree_asker_repeats g h p0 p1 p2 = some (r0, h') → Runs cfg g h 41 [.ptr p0, .agg p1, .agg p2] (.bool r0) h'
/-! ### (*boulter/tree.asker).does$1 -/
noncomputable def B_tree_asker_does_1_s0 (S : SC_tree_asker_does_1_s0) (g : Gd) (h : AHeap) (p0 : Int) (p1 : Int) (p2 : Int) (p3 : Nat × Nat) : Option ((Bool) × AHeap) :=
 (ldP h (p3.1, p3.2)).bind fun x1 => (S.M_tree_asker_asks g h x1 [.int .i64 p0, .int .i64 (0 : Int), .int .i64 p1, .int .i64 p2]).bind fun (x2, h1) => some (x2, h1)
theorem okB_tree_asker_does_1_s0 {S : SC_tree_asker_does_1_s0} (hS : OkSC_tree_asker_does_1_s0 S) {g : Gd} {h h' : AHeap} {p0 : Int} {p1 : Int} {p2 : Int} {p3 : Nat × Nat} {r0 : Bool} (hm : B_tree_asker_does_1_s0 S g h p0 p1 p2 p3 = some (r0, h')) : Runs cfg g h 37 [.int .i64 p0, .int .i64 p1, .int .i64 p2, .ptr (some (p3.1, p3.2))] (.bool r0) h' := by
  refine runs1 (by kernel_rfl) (body_of (n := 14) (rs := [.tmp 7]) (by kernel_rfl) ?_)
  unfold B_tree_asker_does_1_s0 at hm
  refine start (n := 14) [(0, .int .i64 p0), (1, .int .i64 p1), (2, .int .i64 p2), (3, .ptr (some (p3.1, p3.2)))] (by kernel_rfl) (by kernel_rfl) ?_
  intro fr H
  refine aw_seq (by kernel_rfl) ?_
  refine aw_reg (id := 0) (n := 1) [(0, [])] (by kernel_rfl) (by kernel_rfl) ?_
  refine at_seg [(0, [])] [(0, .int .i64 p0), (1, .int .i64 p1), (2, .int .i64 p2), (3, .ptr (some (p3.1, p3.2)))] H (noU_all rfl) (fun fr => by kernel_rfl) ?_
  intro fr H
  refine at_nil ?_
  show AW cfg 37 g (right (bodyC cfg.P 37)) fr h _
  refine aw_seq (by kernel_rfl) ?_
  refine aw_reg (id := 1) (n := 7) [(0, []), (1, []), (2, []), (3, []), (4, []), (5, []), (6, [])] (by kernel_rfl) (by kernel_rfl) ?_
  obtain ⟨x1, hx, hm⟩ := bind_some hm
  refine at_step (v := .ptr x1) (h1 := h) [(0, .int .i64 p0), (1, .int .i64 p1), (2, .int .i64 p2), (8, .ptr x1)] H (fun fr => by kernel_rfl) (fun fr => .of (s_ld (by kernel_rfl) (ldP_eq hx))) ?_
  intro fr t H
  refine at_seg [(1, []), (2, []), (3, []), (4, [])] [(8, .ptr x1), (12, .agg [.int .i64 p0, .int .i64 (0 : Int), .int .i64 p1, .int .i64 p2])] H (noU_all rfl) (fun fr => by kernel_rfl) ?_
  intro fr H
  obtain ⟨⟨x2, h1⟩, hx, hm⟩ := bind_some hm
  refine at_step (v := .bool x2) (h1 := h1) [(13, .bool x2)] H (fun fr => by kernel_rfl) (fun fr => Steps.call (by kernel_rfl) (hS.ok_tree_asker_asks hx)) ?_
  intro fr t H
  refine at_seg [(6, [])] [(7, .bool x2)] H (noU_all rfl) (fun fr => by kernel_rfl) ?_
  intro fr H
  refine at_nil ?_
  show AW cfg 37 g (right (right (bodyC cfg.P 37))) fr h1 _
  refine aw_ret (by kernel_rfl) ?_
  obtain ⟨e1, e2⟩ := inj2 hm
  subst e2
  subst e1
  exact (done_ret H (fun fr => by kernel_rfl) rfl : doneQ cfg.P _ _ _ _ fr _)
/-! ### (*boulter/tree.asker).asks -/
noncomputable def B_tree_asker_asks (S : SC_tree_asker_does_1_s0) (g : Gd) (h : AHeap) (p0 : Option (Nat × Nat)) (p1 : List AVal) : Option ((Bool) × AHeap) :=
 need (p1.all AVal.one) <| (some (h.push (.cells none 2 p1))).bind fun h1 => (p0).bind fun a1 => (ldM h1 (a1.1, a1.2 + 3)).bind fun x1 => (ldA h1 (h.size, 0) 4).bind fun x2 => ((mpL cfg.P h1 58 x1 (.agg x2)).bind fun r => (asB r.1).map fun x => (x, r.2)).bind fun (x3, x4) => iteB x4 (some (x3, h1)) ((ldA h1 (h.size, 0) 4).bind fun x5 => (S.M_tree_asker_does g h1 p0 x5).bind fun (x6, h2) => (p0).bind fun a2 => (ldM h2 (a2.1, a2.2 + 3)).bind fun x7 => (ldA h2 (h.size, 0) 4).bind fun x8 => (mpS cfg.P g h2 58 x7 (.agg x8) (.bool x6)).bind fun h3 => some (x6, h3))
theorem okB_tree_asker_asks {S : SC_tree_asker_does_1_s0} (hS : OkSC_tree_asker_does_1_s0 S) {g : Gd} {h h' : AHeap} {p0 : Option (Nat × Nat)} {p1 : List AVal} {r0 : Bool} (hm : B_tree_asker_asks S g h p0 p1 = some (r0, h')) : Runs cfg g h 23 [.ptr p0, .agg p1] (.bool r0) h' := by
  refine runs1 (by kernel_rfl) (body_of (n := 29) (rs := [.tmp 4]) (by kernel_rfl) ?_)
  unfold B_tree_asker_asks at hm
  refine start (n := 29) [(0, .ptr p0), (1, .agg p1)] (by kernel_rfl) (by kernel_rfl) ?_
  intro fr H
  refine aw_seq (by kernel_rfl) ?_
  refine aw_reg (id := 0) (n := 2) [(0, []), (1, [])] (by kernel_rfl) (by kernel_rfl) ?_
  obtain ⟨hb, hm⟩ := need_some hm
  obtain ⟨h1, hx, hm⟩ := bind_some hm
  refine at_step (v := .ptr (some (h.size, 0))) (h1 := h1) [(0, .ptr p0), (3, .ptr (some (h.size, 0)))] H (fun fr => by kernel_rfl) (fun fr => .of (s_boxG (by kernel_rfl) hb hx)) ?_
  intro fr t H
  refine at_seg [(1, [])] [(0, .ptr p0), (3, .ptr (some (h.size, 0)))] H (noU_all rfl) (fun fr => by kernel_rfl) ?_
  intro fr H
  refine at_nil ?_
  show AW cfg 23 g (right (bodyC cfg.P 23)) fr h1 _
  refine aw_seq (by kernel_rfl) ?_
  refine aw_seq (by kernel_rfl) ?_
  refine aw_draw (id := 1) (n := 11) (by kernel_rfl) [(0, []), (1, []), (2, []), (3, []), (4, []), (5, []), (6, []), (7, []), (8, []), (9, []), (10, [])] (by kernel_rfl) ?_
  refine at_seg [(0, [])] [(0, .ptr p0), (3, .ptr (some (h.size, 0))), (9, .ptr p0)] H (noU_all rfl) (fun fr => by kernel_rfl) ?_
  intro fr H
  obtain ⟨a1, hx, hm⟩ := bind_some hm
  refine at_step (v := .ptr (some a1)) (h1 := h1) [(0, .ptr p0), (3, .ptr (some (h.size, 0))), (10, .ptr (some (a1.1, a1.2)))] H (fun fr => by kernel_rfl) (fun fr => .of (s_nc (by kernel_rfl) hx)) ?_
  intro fr t H
  refine at_seg [(2, [])] [(0, .ptr p0), (3, .ptr (some (h.size, 0))), (11, .ptr (some (a1.1, a1.2 + 3)))] H (noU_all rfl) (fun fr => by kernel_rfl) ?_
  intro fr H
  obtain ⟨x1, hx, hm⟩ := bind_some hm
  refine at_step (v := .map x1) (h1 := h1) [(0, .ptr p0), (3, .ptr (some (h.size, 0))), (12, .map x1)] H (fun fr => by kernel_rfl) (fun fr => .of (s_ld (by kernel_rfl) (ldM_eq hx))) ?_
  intro fr t H
  obtain ⟨x2, hx, hm⟩ := bind_some hm
  refine at_step (v := .agg x2) (h1 := h1) [(0, .ptr p0), (3, .ptr (some (h.size, 0))), (12, .map x1), (13, .agg x2)] H (fun fr => by kernel_rfl) (fun fr => .of (s_ldA (by kernel_rfl) hx)) ?_
  intro fr t H
  obtain ⟨⟨x3, x4⟩, hx, hm⟩ := bind_some hm
  obtain ⟨u, hx, hu⟩ := mpL_as hx
  have hu := asB_eq hu
  subst hu
  refine at_step (v := .tuple [.bool x3, .bool x4]) (h1 := h1) [(0, .ptr p0), (3, .ptr (some (h.size, 0))), (14, .tuple [.bool x3, .bool x4])] H (fun fr => by kernel_rfl) (fun fr => .of (s_lkT (by kernel_rfl) hx)) ?_
  intro fr t H
  refine at_seg [(6, []), (7, []), (8, []), (9, []), (10, [])] [(0, .ptr p0), (3, .ptr (some (h.size, 0))), (5, .bool x3), (6, .bool x4)] H (noU_all rfl) (fun fr => by kernel_rfl) ?_
  intro fr H
  refine at_nil ?_
  show AW cfg 23 g (right (left (right (bodyC cfg.P 23)))) fr h1 _
  refine aw_seq (by kernel_rfl) ?_
  refine aw_reg (id := 2) (n := 1) [(0, [])] (by kernel_rfl) (by kernel_rfl) ?_
  refine at_seg [(0, [])] [(0, .ptr p0), (3, .ptr (some (h.size, 0))), (5, .bool x3), (17, .bool x4)] H (noU_all rfl) (fun fr => by kernel_rfl) ?_
  intro fr H
  refine at_nil ?_
  show AW cfg 23 g (right (right (left (right (bodyC cfg.P 23))))) fr h1 _
  rcases iteB_some hm with ⟨hb, hm⟩ | ⟨hb, hm⟩
  · replace H := H.know 17 hb (by kernel_rfl)
    refine aw_true (x := .tmp 17) (by kernel_rfl) H (fun fr => by kernel_rfl) ?_
    refine aw_seq (by kernel_rfl) ?_
    refine aw_reg (id := 3) (n := 2) [(0, []), (1, [])] (by kernel_rfl) (by kernel_rfl) ?_
    refine at_seg [(0, []), (1, [])] [(4, .bool x3)] H (noU_all rfl) (fun fr => by kernel_rfl) ?_
    intro fr H
    refine at_nil ?_
    show AW cfg 23 g (right (left (right (right (left (right (bodyC cfg.P 23))))))) fr h1 _
    refine aw_ret (by kernel_rfl) ?_
    obtain ⟨e1, e2⟩ := inj2 hm
    subst e2
    subst e1
    exact (done_ret H (fun fr => by kernel_rfl) rfl : doneQ cfg.P _ _ _ _ fr _)
  · replace H := H.know 17 hb (by kernel_rfl)
    refine aw_false (x := .tmp 17) (by kernel_rfl) H (fun fr => by kernel_rfl) ?_
    refine aw_skip (by kernel_rfl) ?_
    show AW cfg 23 g (right (right (bodyC cfg.P 23))) fr h1 _
    refine aw_seq (by kernel_rfl) ?_
    refine aw_reg (id := 4) (n := 4) [(0, []), (1, []), (2, []), (3, [])] (by kernel_rfl) (by kernel_rfl) ?_
    refine at_seg [(0, [])] [(0, .ptr p0), (3, .ptr (some (h.size, 0))), (19, .ptr p0)] H (noU_all rfl) (fun fr => by kernel_rfl) ?_
    intro fr H
    obtain ⟨x5, hx, hm⟩ := bind_some hm
    refine at_step (v := .agg x5) (h1 := h1) [(0, .ptr p0), (3, .ptr (some (h.size, 0))), (19, .ptr p0), (20, .agg x5)] H (fun fr => by kernel_rfl) (fun fr => .of (s_ldA (by kernel_rfl) hx)) ?_
    intro fr t H
    obtain ⟨⟨x6, h2⟩, hx, hm⟩ := bind_some hm
    refine at_step (v := .bool x6) (h1 := h2) [(0, .ptr p0), (3, .ptr (some (h.size, 0))), (21, .bool x6)] H (fun fr => by kernel_rfl) (fun fr => Steps.call (by kernel_rfl) (hS.ok_tree_asker_does hx)) ?_
    intro fr t H
    refine at_seg [(3, [])] [(0, .ptr p0), (3, .ptr (some (h.size, 0))), (7, .bool x6)] H (noU_all rfl) (fun fr => by kernel_rfl) ?_
    intro fr H
    refine at_nil ?_
    show AW cfg 23 g (right (right (right (bodyC cfg.P 23)))) fr h2 _
    refine aw_seq (by kernel_rfl) ?_
    refine aw_draw (id := 5) (n := 7) (by kernel_rfl) [(0, []), (1, []), (2, []), (3, []), (4, []), (5, []), (6, [])] (by kernel_rfl) ?_
    refine at_seg [(0, [])] [(3, .ptr (some (h.size, 0))), (7, .bool x6), (22, .ptr p0)] H (noU_all rfl) (fun fr => by kernel_rfl) ?_
    intro fr H
    obtain ⟨a2, hx, hm⟩ := bind_some hm
    refine at_step (v := .ptr (some a2)) (h1 := h2) [(3, .ptr (some (h.size, 0))), (7, .bool x6), (23, .ptr (some (a2.1, a2.2)))] H (fun fr => by kernel_rfl) (fun fr => .of (s_nc (by kernel_rfl) hx)) ?_
    intro fr t H
    refine at_seg [(2, [])] [(3, .ptr (some (h.size, 0))), (7, .bool x6), (24, .ptr (some (a2.1, a2.2 + 3)))] H (noU_all rfl) (fun fr => by kernel_rfl) ?_
    intro fr H
    obtain ⟨x7, hx, hm⟩ := bind_some hm
    refine at_step (v := .map x7) (h1 := h2) [(3, .ptr (some (h.size, 0))), (7, .bool x6), (25, .map x7)] H (fun fr => by kernel_rfl) (fun fr => .of (s_ld (by kernel_rfl) (ldM_eq hx))) ?_
    intro fr t H
    obtain ⟨x8, hx, hm⟩ := bind_some hm
    refine at_step (v := .agg x8) (h1 := h2) [(7, .bool x6), (25, .map x7), (26, .agg x8)] H (fun fr => by kernel_rfl) (fun fr => .of (s_ldA (by kernel_rfl) hx)) ?_
    intro fr t H
    refine at_seg [(5, [])] [(7, .bool x6), (25, .map x7), (26, .agg x8), (27, .bool x6)] H (noU_all rfl) (fun fr => by kernel_rfl) ?_
    intro fr H
    obtain ⟨h3, hx, hm⟩ := bind_some hm
    refine at_step (v := .tuple []) (h1 := h3) [(7, .bool x6)] H (fun fr => by kernel_rfl) (fun fr => .of (s_ms (by kernel_rfl) hx)) ?_
    intro fr t H
    refine at_nil ?_
    show AW cfg 23 g (right (right (right (right (bodyC cfg.P 23))))) fr h3 _
    refine aw_seq (by kernel_rfl) ?_
    refine aw_reg (id := 6) (n := 2) [(0, []), (1, [])] (by kernel_rfl) (by kernel_rfl) ?_
    refine at_seg [(0, []), (1, [])] [(4, .bool x6)] H (noU_all rfl) (fun fr => by kernel_rfl) ?_
    intro fr H
    refine at_nil ?_
    show AW cfg 23 g (right (right (right (right (right (bodyC cfg.P 23)))))) fr h3 _
    refine aw_ret (by kernel_rfl) ?_
    obtain ⟨e1, e2⟩ := inj2 hm
    subst e2
    subst e1
    exact (done_ret H (fun fr => by kernel_rfl) rfl : doneQ cfg.P _ _ _ _ fr _)
/-! ### (*boulter/tree.asker).does -/
noncomputable def B_tree_asker_does (S : SC_tree_asker_does_1_s0) (g : Gd) (h : AHeap) (p0 : Option (Nat × Nat)) (p1 : List AVal) : Option ((Bool) × AHeap) :=
 (some (h.push (.cells none 2 [.ptr p0]))).bind fun h1 => need (p1.all AVal.one) <| (some (h1.push (.cells none 2 p1))).bind fun h2 => (ldP h2 (h.size, 0)).bind fun x1 => (x1).bind fun a1 => (ldL h2 (a1.1, a1.2 + 0 + 0)).bind fun x2 => (ldI h2 (h1.size, 0) .i64).bind fun x3 => (ixL x2 10 x3).bind fun a2 => (ldA h2 (a2.1, a2.2) 10).bind fun x4 => (some (h2.push (.cells none 2 [.int .i64 (0 : Int), .int .i64 (0 : Int), .int .i64 (0 : Int), .int .i64 (0 : Int), .int .i64 (0 : Int), .int .i64 (0 : Int), .int .u64 (0 : Int), .int .u64 (0 : Int), .int .u64 (0 : Int), .int .u64 (0 : Int)]))).bind fun h3 => (stG 10 g h3 (h2.size, 0) x4).bind fun h4 => (some (h4.push (.cells none 2 [AVal.nilFunc]))).bind fun h5 => (st g h5 (h4.size, 0) [.func (.func 37) [] [.ptr (some (h.size, 0))]]).bind fun h6 => (ldI h6 (h2.size, 0) .i64).bind fun x5 => iteB (x5 == (0 : Int)) ((ldI h6 (h1.size, 2) .i64).bind fun x6 => (ldI h6 (h1.size, 3) .i64).bind fun x7 => some (x6 == x7, h6)) (iteB (x5 == (1 : Int)) ((ldI h6 (h1.size, 3) .i64).bind fun x8 => (ldI h6 (h1.size, 2) .i64).bind fun x9 => (iteB (x8 == (IntKind.i64.wrap (x9 + (1 : Int)))) ((ldA h6 (h2.size, 6) 4).bind fun x11 => (ldP h6 (h.size, 0)).bind fun x12 => (x12).bind fun a3 => (ldS h6 (a3.1, a3.2 + 2)).bind fun x13 => (ldI h6 (h1.size, 2) .i64).bind fun x14 => (ixS x13 x14).bind fun x15 => (M_class_Set_Has h6 x11 x15).bind fun x16 => some x16) (some false) : Option (Bool)).bind fun x10 => some (x10, h6)) (iteB (x5 == (6 : Int)) ((ldI h6 (h1.size, 2) .i64).bind fun x17 => (iteB (x17 == (0 : Int)) ((ldI h6 (h1.size, 3) .i64).bind fun x19 => some (x19 == (0 : Int))) (some false) : Option (Bool)).bind fun x18 => some (x18, h6)) (iteB (x5 == (7 : Int)) ((ldI h6 (h1.size, 2) .i64).bind fun x20 => (ldP h6 (h.size, 0)).bind fun x21 => (x21).bind fun a4 => (ldS h6 (a4.1, a4.2 + 2)).bind fun x22 => (iteB (x20 == (x22.length : Int)) ((ldI h6 (h1.size, 3) .i64).bind fun x24 => (ldP h6 (h.size, 0)).bind fun x25 => (x25).bind fun a5 => (ldS h6 (a5.1, a5.2 + 2)).bind fun x26 => some (x24 == (x26.length : Int))) (some false) : Option (Bool)).bind fun x23 => some (x23, h6)) (iteB (x5 == (3 : Int)) ((ldF h6 (h4.size, 0) 37 (cap asA capN)).bind fun (a6, _) => (ldI h6 (h2.size, 1) .i64).bind fun x27 => (ldI h6 (h1.size, 2) .i64).bind fun x28 => (ldI h6 (h1.size, 3) .i64).bind fun x29 => (S.M_tree_asker_does_1_s0 g h6 x27 x28 x29 (a6.1, a6.2)).bind fun (x30, h7) => (iteB x30 (some (true, h7)) ((ldF h7 (h4.size, 0) 37 (cap asA capN)).bind fun (a7, _) => (ldI h7 (h2.size, 2) .i64).bind fun x32 => (ldI h7 (h1.size, 2) .i64).bind fun x33 => (ldI h7 (h1.size, 3) .i64).bind fun x34 => (S.M_tree_asker_does_1_s0 g h7 x32 x33 x34 (a7.1, a7.2)).bind fun (x35, h9) => some (x35, h9)) : Option (Bool × AHeap)).bind fun (x31, h8) => some (x31, h8)) (iteB (x5 == (5 : Int)) ((ldF h6 (h4.size, 0) 37 (cap asA capN)).bind fun (a8, _) => (ldI h6 (h2.size, 1) .i64).bind fun x36 => (ldI h6 (h1.size, 2) .i64).bind fun x37 => (ldI h6 (h1.size, 3) .i64).bind fun x38 => (S.M_tree_asker_does_1_s0 g h6 x36 x37 x38 (a8.1, a8.2)).bind fun (x39, h10) => some (x39, h10)) (iteB (x5 == (2 : Int)) ((ldP h6 (h.size, 0)).bind fun x40 => (ldA h6 (h1.size, 0) 4).bind fun x41 => (S.M_tree_asker_cut_s0 g h6 x40 x41 (h4.size, 0) (h2.size, 0) (h1.size, 0) (h4.size, 0) (h2.size, 0) (h1.size, 0)).bind fun (x42, h11) => some (x42, h11)) ((ldP h6 (h.size, 0)).bind fun x43 => (ldA h6 (h1.size, 0) 4).bind fun x44 => (ldA h6 (h2.size, 0) 10).bind fun x45 => (S.M_tree_asker_repeats g h6 x43 x44 x45).bind fun (x46, h12) => some (x46, h12))))))))
theorem okB_tree_asker_does {S : SC_tree_asker_does_1_s0} (hS : OkSC_tree_asker_does_1_s0 S) {g : Gd} {h h' : AHeap} {p0 : Option (Nat × Nat)} {p1 : List AVal} {r0 : Bool} (hm : B_tree_asker_does S g h p0 p1 = some (r0, h')) : Runs cfg g h 32 [.ptr p0, .agg p1] (.bool r0) h' := by
  refine runs1 (by kernel_rfl) (body_of (n := 117) (rs := [.tmp 4]) (by kernel_rfl) ?_)
  unfold B_tree_asker_does at hm
  refine start (n := 117) [(0, .ptr p0), (1, .agg p1)] (by kernel_rfl) (by kernel_rfl) ?_
  intro fr H
  refine aw_seq (by kernel_rfl) ?_
  refine aw_reg (id := 0) (n := 3) [(0, []), (1, []), (2, [])] (by kernel_rfl) (by kernel_rfl) ?_
  obtain ⟨h1, hx, hm⟩ := bind_some hm
  refine at_step (v := .ptr (some (h.size, 0))) (h1 := h1) [(1, .agg p1), (2, .ptr (some (h.size, 0)))] H (fun fr => by kernel_rfl) (fun fr => .of (s_n' (by kernel_rfl) hx)) ?_
  intro fr t H
  obtain ⟨hb, hm⟩ := need_some hm
  obtain ⟨h2, hx, hm⟩ := bind_some hm
  refine at_step (v := .ptr (some (h1.size, 0))) (h1 := h2) [(2, .ptr (some (h.size, 0))), (3, .ptr (some (h1.size, 0)))] H (fun fr => by kernel_rfl) (fun fr => .of (s_boxG (by kernel_rfl) hb hx)) ?_
  intro fr t H
  refine at_seg [(2, [])] [(2, .ptr (some (h.size, 0))), (3, .ptr (some (h1.size, 0)))] H (noU_all rfl) (fun fr => by kernel_rfl) ?_
  intro fr H
  refine at_nil ?_
  show AW cfg 32 g (right (bodyC cfg.P 32)) fr h2 _
  refine aw_seq (by kernel_rfl) ?_
  refine aw_draw (id := 1) (n := 11) (by kernel_rfl) [(0, []), (1, []), (2, []), (3, []), (4, []), (5, []), (6, []), (7, []), (8, []), (9, []), (10, [])] (by kernel_rfl) ?_
  obtain ⟨x1, hx, hm⟩ := bind_some hm
  refine at_step (v := .ptr x1) (h1 := h2) [(2, .ptr (some (h.size, 0))), (3, .ptr (some (h1.size, 0))), (7, .ptr x1)] H (fun fr => by kernel_rfl) (fun fr => .of (s_ld (by kernel_rfl) (ldP_eq hx))) ?_
  intro fr t H
  obtain ⟨a1, hx, hm⟩ := bind_some hm
  refine at_step (v := .ptr (some a1)) (h1 := h2) [(2, .ptr (some (h.size, 0))), (3, .ptr (some (h1.size, 0))), (8, .ptr (some (a1.1, a1.2)))] H (fun fr => by kernel_rfl) (fun fr => .of (s_nc (by kernel_rfl) hx)) ?_
  intro fr t H
  refine at_seg [(2, []), (3, [])] [(2, .ptr (some (h.size, 0))), (3, .ptr (some (h1.size, 0))), (10, .ptr (some (a1.1, a1.2 + 0 + 0)))] H (noU_all rfl) (fun fr => by kernel_rfl) ?_
  intro fr H
  obtain ⟨x2, hx, hm⟩ := bind_some hm
  refine at_step (v := .slice x2.r x2.n) (h1 := h2) [(2, .ptr (some (h.size, 0))), (3, .ptr (some (h1.size, 0))), (11, .slice x2.r x2.n)] H (fun fr => by kernel_rfl) (fun fr => .of (s_ld (by kernel_rfl) (ldL_eq hx))) ?_
  intro fr t H
  refine at_seg [(5, [])] [(2, .ptr (some (h.size, 0))), (3, .ptr (some (h1.size, 0))), (11, .slice x2.r x2.n), (12, .ptr (some (h1.size, 0)))] H (noU_all rfl) (fun fr => by kernel_rfl) ?_
  intro fr H
  obtain ⟨x3, hx, hm⟩ := bind_some hm
  refine at_step (v := .int .i64 x3) (h1 := h2) [(2, .ptr (some (h.size, 0))), (3, .ptr (some (h1.size, 0))), (11, .slice x2.r x2.n), (13, .int .i64 x3)] H (fun fr => by kernel_rfl) (fun fr => .of (s_ld (by kernel_rfl) (ldI_eq hx))) ?_
  intro fr t H
  obtain ⟨a2, hx, hm⟩ := bind_some hm
  refine at_step (v := .ptr (some a2)) (h1 := h2) [(2, .ptr (some (h.size, 0))), (3, .ptr (some (h1.size, 0))), (14, .ptr (some (a2.1, a2.2)))] H (fun fr => by kernel_rfl) (fun fr => .of (s_ixL (s := x2) (by kernel_rfl) hx)) ?_
  intro fr t H
  obtain ⟨x4, hx, hm⟩ := bind_some hm
  refine at_step (v := .agg x4) (h1 := h2) [(2, .ptr (some (h.size, 0))), (3, .ptr (some (h1.size, 0))), (15, .agg x4)] H (fun fr => by kernel_rfl) (fun fr => .of (s_ldA (by kernel_rfl) hx)) ?_
  intro fr t H
  obtain ⟨h3, hx, hm⟩ := bind_some hm
  refine at_step (v := .ptr (some (h2.size, 0))) (h1 := h3) [(2, .ptr (some (h.size, 0))), (3, .ptr (some (h1.size, 0))), (5, .ptr (some (h2.size, 0))), (15, .agg x4)] H (fun fr => by kernel_rfl) (fun fr => .of (s_n' (by kernel_rfl) hx)) ?_
  intro fr t H
  obtain ⟨h4, hx, hm⟩ := bind_some hm
  refine at_step (v := .tuple []) (h1 := h4) [(2, .ptr (some (h.size, 0))), (3, .ptr (some (h1.size, 0))), (5, .ptr (some (h2.size, 0)))] H (fun fr => by kernel_rfl) (fun fr => .of (s_stG (by kernel_rfl) hx)) ?_
  intro fr t H
  refine at_nil ?_
  show AW cfg 32 g (right (right (bodyC cfg.P 32))) fr h4 _
  refine aw_seq (by kernel_rfl) ?_
  refine aw_reg (id := 2) (n := 3) [(0, []), (1, []), (2, [])] (by kernel_rfl) (by kernel_rfl) ?_
  refine at_seg [(0, [])] [(2, .ptr (some (h.size, 0))), (3, .ptr (some (h1.size, 0))), (5, .ptr (some (h2.size, 0))), (16, .func (.func 37) [] [.ptr (some (h.size, 0))])] H (noU_all rfl) (fun fr => by kernel_rfl) ?_
  intro fr H
  obtain ⟨h5, hx, hm⟩ := bind_some hm
  refine at_step (v := .ptr (some (h4.size, 0))) (h1 := h5) [(2, .ptr (some (h.size, 0))), (3, .ptr (some (h1.size, 0))), (5, .ptr (some (h2.size, 0))), (6, .ptr (some (h4.size, 0))), (16, .func (.func 37) [] [.ptr (some (h.size, 0))])] H (fun fr => by kernel_rfl) (fun fr => .of (s_n' (by kernel_rfl) hx)) ?_
  intro fr t H
  obtain ⟨h6, hx, hm⟩ := bind_some hm
  refine at_step (v := .tuple []) (h1 := h6) [(2, .ptr (some (h.size, 0))), (3, .ptr (some (h1.size, 0))), (5, .ptr (some (h2.size, 0))), (6, .ptr (some (h4.size, 0)))] H (fun fr => by kernel_rfl) (fun fr => .of (s_st (by kernel_rfl) rfl hx)) ?_
  intro fr t H
  refine at_nil ?_
  show AW cfg 32 g (right (right (right (bodyC cfg.P 32)))) fr h6 _
  refine aw_seq (by kernel_rfl) ?_
  refine aw_seq (by kernel_rfl) ?_
  refine aw_reg (id := 3) (n := 2) [(0, []), (1, [])] (by kernel_rfl) (by kernel_rfl) ?_
  refine at_seg [(0, [])] [(2, .ptr (some (h.size, 0))), (3, .ptr (some (h1.size, 0))), (5, .ptr (some (h2.size, 0))), (6, .ptr (some (h4.size, 0))), (17, .ptr (some (h2.size, 0)))] H (noU_all rfl) (fun fr => by kernel_rfl) ?_
  intro fr H
  obtain ⟨x5, hx, hm⟩ := bind_some hm
  refine at_step (v := .int .i64 x5) (h1 := h6) [(2, .ptr (some (h.size, 0))), (3, .ptr (some (h1.size, 0))), (5, .ptr (some (h2.size, 0))), (6, .ptr (some (h4.size, 0))), (18, .int .i64 x5)] H (fun fr => by kernel_rfl) (fun fr => .of (s_ld (by kernel_rfl) (ldI_eq hx))) ?_
  intro fr t H
  refine at_nil ?_
  show AW cfg 32 g (right (left (right (right (right (bodyC cfg.P 32)))))) fr h6 _
  refine aw_block (id := 0) (by kernel_rfl) ?_
  refine aw_seq (by kernel_rfl) ?_
  refine aw_reg (id := 4) (n := 2) [(0, []), (1, [])] (by kernel_rfl) (by kernel_rfl) ?_
  refine at_seg [(0, []), (1, [])] [(2, .ptr (some (h.size, 0))), (3, .ptr (some (h1.size, 0))), (5, .ptr (some (h2.size, 0))), (6, .ptr (some (h4.size, 0))), (18, .int .i64 x5), (19, .bool (x5 == (0 : Int)))] H (noU_all rfl) (fun fr => by kernel_rfl) ?_
  intro fr H
  refine at_nil ?_
  show AW cfg 32 g (right (left (right (left (right (right (right (bodyC cfg.P 32)))))))) fr h6 _
  rcases iteB_some hm with ⟨hb, hm⟩ | ⟨hb, hm⟩
  · replace H := H.know 19 hb (by kernel_rfl)
    refine aw_true (x := .tmp 19) (by kernel_rfl) H (fun fr => by kernel_rfl) ?_
    refine aw_seq (by kernel_rfl) ?_
    refine aw_reg (id := 5) (n := 6) [(0, []), (1, []), (2, []), (3, []), (4, []), (5, [])] (by kernel_rfl) (by kernel_rfl) ?_
    refine at_seg [(0, [])] [(3, .ptr (some (h1.size, 0))), (21, .ptr (some (h1.size, 2)))] H (noU_all rfl) (fun fr => by kernel_rfl) ?_
    intro fr H
    obtain ⟨x6, hx, hm⟩ := bind_some hm
    refine at_step (v := .int .i64 x6) (h1 := h6) [(3, .ptr (some (h1.size, 0))), (22, .int .i64 x6)] H (fun fr => by kernel_rfl) (fun fr => .of (s_ld (by kernel_rfl) (ldI_eq hx))) ?_
    intro fr t H
    refine at_seg [(2, [])] [(22, .int .i64 x6), (23, .ptr (some (h1.size, 3)))] H (noU_all rfl) (fun fr => by kernel_rfl) ?_
    intro fr H
    obtain ⟨x7, hx, hm⟩ := bind_some hm
    refine at_step (v := .int .i64 x7) (h1 := h6) [(22, .int .i64 x6), (24, .int .i64 x7)] H (fun fr => by kernel_rfl) (fun fr => .of (s_ld (by kernel_rfl) (ldI_eq hx))) ?_
    intro fr t H
    refine at_seg [(4, []), (5, [])] [(4, .bool (x6 == x7))] H (noU_all rfl) (fun fr => by kernel_rfl) ?_
    intro fr H
    refine at_nil ?_
    show AW cfg 32 g (right (left (right (left (right (left (right (right (right (bodyC cfg.P 32)))))))))) fr h6 _
    refine aw_ret (by kernel_rfl) ?_
    obtain ⟨e1, e2⟩ := inj2 hm
    subst e2
    subst e1
    exact (done_ret H (fun fr => by kernel_rfl) rfl : doneQ cfg.P _ _ _ _ fr _)
  · replace H := H.know 19 hb (by kernel_rfl)
    refine aw_false (x := .tmp 19) (by kernel_rfl) H (fun fr => by kernel_rfl) ?_
    refine aw_seq (by kernel_rfl) ?_
    refine aw_reg (id := 6) (n := 2) [(0, []), (1, [])] (by kernel_rfl) (by kernel_rfl) ?_
    refine at_seg [(0, []), (1, [])] [(2, .ptr (some (h.size, 0))), (3, .ptr (some (h1.size, 0))), (5, .ptr (some (h2.size, 0))), (6, .ptr (some (h4.size, 0))), (18, .int .i64 x5), (26, .bool (x5 == (1 : Int)))] H (noU_all rfl) (fun fr => by kernel_rfl) ?_
    intro fr H
    refine at_nil ?_
    show AW cfg 32 g (right (right (right (left (right (left (right (right (right (bodyC cfg.P 32)))))))))) fr h6 _
    rcases iteB_some hm with ⟨hb, hm⟩ | ⟨hb, hm⟩
    · replace H := H.know 26 hb (by kernel_rfl)
      refine aw_true (x := .tmp 26) (by kernel_rfl) H (fun fr => by kernel_rfl) ?_
      refine aw_seq (by kernel_rfl) ?_
      refine aw_draw (id := 7) (n := 19) (by kernel_rfl) [(0, []), (1, []), (2, []), (3, []), (4, []), (5, []), (6, []), (7, []), (8, []), (9, []), (10, []), (11, []), (12, []), (13, []), (14, []), (15, []), (16, []), (17, []), (18, [])] (by kernel_rfl) ?_
      refine at_seg [(0, [])] [(2, .ptr (some (h.size, 0))), (3, .ptr (some (h1.size, 0))), (5, .ptr (some (h2.size, 0))), (28, .ptr (some (h1.size, 3)))] H (noU_all rfl) (fun fr => by kernel_rfl) ?_
      intro fr H
      obtain ⟨x8, hx, hm⟩ := bind_some hm
      refine at_step (v := .int .i64 x8) (h1 := h6) [(2, .ptr (some (h.size, 0))), (3, .ptr (some (h1.size, 0))), (5, .ptr (some (h2.size, 0))), (29, .int .i64 x8)] H (fun fr => by kernel_rfl) (fun fr => .of (s_ld (by kernel_rfl) (ldI_eq hx))) ?_
      intro fr t H
      refine at_seg [(2, [])] [(2, .ptr (some (h.size, 0))), (3, .ptr (some (h1.size, 0))), (5, .ptr (some (h2.size, 0))), (29, .int .i64 x8), (30, .ptr (some (h1.size, 2)))] H (noU_all rfl) (fun fr => by kernel_rfl) ?_
      intro fr H
      obtain ⟨x9, hx, hm⟩ := bind_some hm
      refine at_step (v := .int .i64 x9) (h1 := h6) [(2, .ptr (some (h.size, 0))), (3, .ptr (some (h1.size, 0))), (5, .ptr (some (h2.size, 0))), (29, .int .i64 x8), (31, .int .i64 x9)] H (fun fr => by kernel_rfl) (fun fr => .of (s_ld (by kernel_rfl) (ldI_eq hx))) ?_
      intro fr t H
      refine at_seg [(4, []), (5, []), (6, [])] [(2, .ptr (some (h.size, 0))), (3, .ptr (some (h1.size, 0))), (5, .ptr (some (h2.size, 0))), (34, .bool (x8 == (IntKind.i64.wrap (x9 + (1 : Int)))))] H (noU_all rfl) (fun fr => by kernel_rfl) ?_
      intro fr H
      obtain ⟨x10, ho, hm⟩ := bind_some hm
      refine at_cut [(7, []), (8, []), (9, []), (10, []), (11, []), (12, []), (13, []), (14, []), (15, []), (16, []), (17, [])] (fun fr' h' => h6 = h' ∧ Has fr' 117 [(45, .bool x10)]) ?_ ?_
      · rcases iteB_some ho with ⟨hb, hm⟩ | ⟨hb, hm⟩
        · replace H := H.know 34 hb (by kernel_rfl)
          refine at_seg [(7, [])] [(2, .ptr (some (h.size, 0))), (3, .ptr (some (h1.size, 0))), (34, .bool true), (35, .ptr (some (h2.size, 6)))] H (noU_all rfl) (fun fr => by kernel_rfl) ?_
          intro fr H
          obtain ⟨x11, hx, hm⟩ := bind_some hm
          refine at_step (v := .agg x11) (h1 := h6) [(2, .ptr (some (h.size, 0))), (3, .ptr (some (h1.size, 0))), (34, .bool true), (36, .agg x11)] H (fun fr => by kernel_rfl) (fun fr => .of (s_ldA (by kernel_rfl) hx)) ?_
          intro fr t H
          obtain ⟨x12, hx, hm⟩ := bind_some hm
          refine at_step (v := .ptr x12) (h1 := h6) [(3, .ptr (some (h1.size, 0))), (34, .bool true), (36, .agg x11), (37, .ptr x12)] H (fun fr => by kernel_rfl) (fun fr => .of (s_ld (by kernel_rfl) (ldP_eq hx))) ?_
          intro fr t H
          obtain ⟨a3, hx, hm⟩ := bind_some hm
          refine at_step (v := .ptr (some a3)) (h1 := h6) [(3, .ptr (some (h1.size, 0))), (34, .bool true), (36, .agg x11), (38, .ptr (some (a3.1, a3.2)))] H (fun fr => by kernel_rfl) (fun fr => .of (s_nc (by kernel_rfl) hx)) ?_
          intro fr t H
          refine at_seg [(11, [])] [(3, .ptr (some (h1.size, 0))), (34, .bool true), (36, .agg x11), (39, .ptr (some (a3.1, a3.2 + 2)))] H (noU_all rfl) (fun fr => by kernel_rfl) ?_
          intro fr H
          obtain ⟨x13, hx, hm⟩ := bind_some hm
          refine at_step (v := .str x13) (h1 := h6) [(3, .ptr (some (h1.size, 0))), (34, .bool true), (36, .agg x11), (40, .str x13)] H (fun fr => by kernel_rfl) (fun fr => .of (s_ld (by kernel_rfl) (ldS_eq hx))) ?_
          intro fr t H
          refine at_seg [(13, [])] [(34, .bool true), (36, .agg x11), (40, .str x13), (41, .ptr (some (h1.size, 2)))] H (noU_all rfl) (fun fr => by kernel_rfl) ?_
          intro fr H
          obtain ⟨x14, hx, hm⟩ := bind_some hm
          refine at_step (v := .int .i64 x14) (h1 := h6) [(34, .bool true), (36, .agg x11), (40, .str x13), (42, .int .i64 x14)] H (fun fr => by kernel_rfl) (fun fr => .of (s_ld (by kernel_rfl) (ldI_eq hx))) ?_
          intro fr t H
          obtain ⟨x15, hx, hm⟩ := bind_some hm
          refine at_step (v := .int .u8 x15) (h1 := h6) [(34, .bool true), (36, .agg x11), (43, .int .u8 x15)] H (fun fr => by kernel_rfl) (fun fr => .of (s_ixS (by kernel_rfl) hx)) ?_
          intro fr t H
          obtain ⟨x16, hx, hm⟩ := bind_some hm
          refine at_step (v := .bool x16) (h1 := h6) [(34, .bool true), (44, .bool x16)] H (fun fr => by kernel_rfl) (fun fr => Steps.call (by kernel_rfl) (ok_class_Set_Has hx)) ?_
          intro fr t H
          refine at_seg [(17, [])] [(45, .bool x16)] H (noU_all rfl) (fun fr => by kernel_rfl) ?_
          intro fr H
          have e1 := Option.some.inj hm
          subst e1
          exact at_nil ⟨rfl, H.less _ (fun fr => by kernel_rfl)⟩
        · replace H := H.know 34 hb (by kernel_rfl)
          refine at_seg [(7, []), (8, []), (9, []), (10, []), (11, []), (12, []), (13, []), (14, []), (15, []), (16, []), (17, [])] [(45, .bool false)] H (noU_all rfl) (fun fr => by kernel_rfl) ?_
          intro fr H
          have e1 := Option.some.inj hm
          subst e1
          exact at_nil ⟨rfl, H.less _ (fun fr => by kernel_rfl)⟩
      · intro t fr h' hK
        obtain ⟨e, H⟩ := hK
        subst e
        refine at_seg [(18, [])] [(4, .bool x10)] H (noU_all rfl) (fun fr => by kernel_rfl) ?_
        intro fr H
        refine at_nil ?_
        show AW cfg 32 g (right (left (right (right (right (left (right (left (right (right (right (bodyC cfg.P 32)))))))))))) fr h6 _
        refine aw_ret (by kernel_rfl) ?_
        obtain ⟨e1, e2⟩ := inj2 hm
        subst e2
        subst e1
        exact (done_ret H (fun fr => by kernel_rfl) rfl : doneQ cfg.P _ _ _ _ fr _)
    · replace H := H.know 26 hb (by kernel_rfl)
      refine aw_false (x := .tmp 26) (by kernel_rfl) H (fun fr => by kernel_rfl) ?_
      refine aw_seq (by kernel_rfl) ?_
      refine aw_reg (id := 8) (n := 2) [(0, []), (1, [])] (by kernel_rfl) (by kernel_rfl) ?_
      refine at_seg [(0, []), (1, [])] [(2, .ptr (some (h.size, 0))), (3, .ptr (some (h1.size, 0))), (5, .ptr (some (h2.size, 0))), (6, .ptr (some (h4.size, 0))), (18, .int .i64 x5), (46, .bool (x5 == (6 : Int)))] H (noU_all rfl) (fun fr => by kernel_rfl) ?_
      intro fr H
      refine at_nil ?_
      show AW cfg 32 g (right (right (right (right (right (left (right (left (right (right (right (bodyC cfg.P 32)))))))))))) fr h6 _
      rcases iteB_some hm with ⟨hb, hm⟩ | ⟨hb, hm⟩
      · replace H := H.know 46 hb (by kernel_rfl)
        refine aw_true (x := .tmp 46) (by kernel_rfl) H (fun fr => by kernel_rfl) ?_
        refine aw_seq (by kernel_rfl) ?_
        refine aw_reg (id := 9) (n := 9) [(0, []), (1, []), (2, []), (3, []), (4, []), (5, []), (6, []), (7, []), (8, [])] (by kernel_rfl) (by kernel_rfl) ?_
        refine at_seg [(0, [])] [(3, .ptr (some (h1.size, 0))), (48, .ptr (some (h1.size, 2)))] H (noU_all rfl) (fun fr => by kernel_rfl) ?_
        intro fr H
        obtain ⟨x17, hx, hm⟩ := bind_some hm
        refine at_step (v := .int .i64 x17) (h1 := h6) [(3, .ptr (some (h1.size, 0))), (49, .int .i64 x17)] H (fun fr => by kernel_rfl) (fun fr => .of (s_ld (by kernel_rfl) (ldI_eq hx))) ?_
        intro fr t H
        refine at_seg [(2, []), (3, [])] [(3, .ptr (some (h1.size, 0))), (51, .bool (x17 == (0 : Int)))] H (noU_all rfl) (fun fr => by kernel_rfl) ?_
        intro fr H
        obtain ⟨x18, ho, hm⟩ := bind_some hm
        refine at_cut [(4, []), (5, []), (6, []), (7, [])] (fun fr' h' => h6 = h' ∧ Has fr' 117 [(55, .bool x18)]) ?_ ?_
        · rcases iteB_some ho with ⟨hb, hm⟩ | ⟨hb, hm⟩
          · replace H := H.know 51 hb (by kernel_rfl)
            refine at_seg [(4, [])] [(51, .bool true), (52, .ptr (some (h1.size, 3)))] H (noU_all rfl) (fun fr => by kernel_rfl) ?_
            intro fr H
            obtain ⟨x19, hx, hm⟩ := bind_some hm
            refine at_step (v := .int .i64 x19) (h1 := h6) [(51, .bool true), (53, .int .i64 x19)] H (fun fr => by kernel_rfl) (fun fr => .of (s_ld (by kernel_rfl) (ldI_eq hx))) ?_
            intro fr t H
            refine at_seg [(6, []), (7, [])] [(55, .bool (x19 == (0 : Int)))] H (noU_all rfl) (fun fr => by kernel_rfl) ?_
            intro fr H
            have e1 := Option.some.inj hm
            subst e1
            exact at_nil ⟨rfl, H.less _ (fun fr => by kernel_rfl)⟩
          · replace H := H.know 51 hb (by kernel_rfl)
            refine at_seg [(4, []), (5, []), (6, []), (7, [])] [(55, .bool false)] H (noU_all rfl) (fun fr => by kernel_rfl) ?_
            intro fr H
            have e1 := Option.some.inj hm
            subst e1
            exact at_nil ⟨rfl, H.less _ (fun fr => by kernel_rfl)⟩
        · intro t fr h' hK
          obtain ⟨e, H⟩ := hK
          subst e
          refine at_seg [(8, [])] [(4, .bool x18)] H (noU_all rfl) (fun fr => by kernel_rfl) ?_
          intro fr H
          refine at_nil ?_
          show AW cfg 32 g (right (left (right (right (right (right (right (left (right (left (right (right (right (bodyC cfg.P 32)))))))))))))) fr h6 _
          refine aw_ret (by kernel_rfl) ?_
          obtain ⟨e1, e2⟩ := inj2 hm
          subst e2
          subst e1
          exact (done_ret H (fun fr => by kernel_rfl) rfl : doneQ cfg.P _ _ _ _ fr _)
      · replace H := H.know 46 hb (by kernel_rfl)
        refine aw_false (x := .tmp 46) (by kernel_rfl) H (fun fr => by kernel_rfl) ?_
        refine aw_seq (by kernel_rfl) ?_
        refine aw_reg (id := 10) (n := 2) [(0, []), (1, [])] (by kernel_rfl) (by kernel_rfl) ?_
        refine at_seg [(0, []), (1, [])] [(2, .ptr (some (h.size, 0))), (3, .ptr (some (h1.size, 0))), (5, .ptr (some (h2.size, 0))), (6, .ptr (some (h4.size, 0))), (18, .int .i64 x5), (56, .bool (x5 == (7 : Int)))] H (noU_all rfl) (fun fr => by kernel_rfl) ?_
        intro fr H
        refine at_nil ?_
        show AW cfg 32 g (right (right (right (right (right (right (right (left (right (left (right (right (right (bodyC cfg.P 32)))))))))))))) fr h6 _
        rcases iteB_some hm with ⟨hb, hm⟩ | ⟨hb, hm⟩
        · replace H := H.know 56 hb (by kernel_rfl)
          refine aw_true (x := .tmp 56) (by kernel_rfl) H (fun fr => by kernel_rfl) ?_
          refine aw_seq (by kernel_rfl) ?_
          refine aw_draw (id := 11) (n := 19) (by kernel_rfl) [(0, []), (1, []), (2, []), (3, []), (4, []), (5, []), (6, []), (7, []), (8, []), (9, []), (10, []), (11, []), (12, []), (13, []), (14, []), (15, []), (16, []), (17, []), (18, [])] (by kernel_rfl) ?_
          refine at_seg [(0, [])] [(2, .ptr (some (h.size, 0))), (3, .ptr (some (h1.size, 0))), (58, .ptr (some (h1.size, 2)))] H (noU_all rfl) (fun fr => by kernel_rfl) ?_
          intro fr H
          obtain ⟨x20, hx, hm⟩ := bind_some hm
          refine at_step (v := .int .i64 x20) (h1 := h6) [(2, .ptr (some (h.size, 0))), (3, .ptr (some (h1.size, 0))), (59, .int .i64 x20)] H (fun fr => by kernel_rfl) (fun fr => .of (s_ld (by kernel_rfl) (ldI_eq hx))) ?_
          intro fr t H
          obtain ⟨x21, hx, hm⟩ := bind_some hm
          refine at_step (v := .ptr x21) (h1 := h6) [(2, .ptr (some (h.size, 0))), (3, .ptr (some (h1.size, 0))), (59, .int .i64 x20), (60, .ptr x21)] H (fun fr => by kernel_rfl) (fun fr => .of (s_ld (by kernel_rfl) (ldP_eq hx))) ?_
          intro fr t H
          obtain ⟨a4, hx, hm⟩ := bind_some hm
          refine at_step (v := .ptr (some a4)) (h1 := h6) [(2, .ptr (some (h.size, 0))), (3, .ptr (some (h1.size, 0))), (59, .int .i64 x20), (61, .ptr (some (a4.1, a4.2)))] H (fun fr => by kernel_rfl) (fun fr => .of (s_nc (by kernel_rfl) hx)) ?_
          intro fr t H
          refine at_seg [(4, [])] [(2, .ptr (some (h.size, 0))), (3, .ptr (some (h1.size, 0))), (59, .int .i64 x20), (62, .ptr (some (a4.1, a4.2 + 2)))] H (noU_all rfl) (fun fr => by kernel_rfl) ?_
          intro fr H
          obtain ⟨x22, hx, hm⟩ := bind_some hm
          refine at_step (v := .str x22) (h1 := h6) [(2, .ptr (some (h.size, 0))), (3, .ptr (some (h1.size, 0))), (59, .int .i64 x20), (63, .str x22)] H (fun fr => by kernel_rfl) (fun fr => .of (s_ld (by kernel_rfl) (ldS_eq hx))) ?_
          intro fr t H
          refine at_seg [(6, []), (7, []), (8, [])] [(2, .ptr (some (h.size, 0))), (3, .ptr (some (h1.size, 0))), (66, .bool (x20 == (x22.length : Int)))] H (noU_all rfl) (fun fr => by kernel_rfl) ?_
          intro fr H
          obtain ⟨x23, ho, hm⟩ := bind_some hm
          refine at_cut [(9, []), (10, []), (11, []), (12, []), (13, []), (14, []), (15, []), (16, []), (17, [])] (fun fr' h' => h6 = h' ∧ Has fr' 117 [(75, .bool x23)]) ?_ ?_
          · rcases iteB_some ho with ⟨hb, hm⟩ | ⟨hb, hm⟩
            · replace H := H.know 66 hb (by kernel_rfl)
              refine at_seg [(9, [])] [(2, .ptr (some (h.size, 0))), (66, .bool true), (67, .ptr (some (h1.size, 3)))] H (noU_all rfl) (fun fr => by kernel_rfl) ?_
              intro fr H
              obtain ⟨x24, hx, hm⟩ := bind_some hm
              refine at_step (v := .int .i64 x24) (h1 := h6) [(2, .ptr (some (h.size, 0))), (66, .bool true), (68, .int .i64 x24)] H (fun fr => by kernel_rfl) (fun fr => .of (s_ld (by kernel_rfl) (ldI_eq hx))) ?_
              intro fr t H
              obtain ⟨x25, hx, hm⟩ := bind_some hm
              refine at_step (v := .ptr x25) (h1 := h6) [(66, .bool true), (68, .int .i64 x24), (69, .ptr x25)] H (fun fr => by kernel_rfl) (fun fr => .of (s_ld (by kernel_rfl) (ldP_eq hx))) ?_
              intro fr t H
              obtain ⟨a5, hx, hm⟩ := bind_some hm
              refine at_step (v := .ptr (some a5)) (h1 := h6) [(66, .bool true), (68, .int .i64 x24), (70, .ptr (some (a5.1, a5.2)))] H (fun fr => by kernel_rfl) (fun fr => .of (s_nc (by kernel_rfl) hx)) ?_
              intro fr t H
              refine at_seg [(13, [])] [(66, .bool true), (68, .int .i64 x24), (71, .ptr (some (a5.1, a5.2 + 2)))] H (noU_all rfl) (fun fr => by kernel_rfl) ?_
              intro fr H
              obtain ⟨x26, hx, hm⟩ := bind_some hm
              refine at_step (v := .str x26) (h1 := h6) [(66, .bool true), (68, .int .i64 x24), (72, .str x26)] H (fun fr => by kernel_rfl) (fun fr => .of (s_ld (by kernel_rfl) (ldS_eq hx))) ?_
              intro fr t H
              refine at_seg [(15, []), (16, []), (17, [])] [(75, .bool (x24 == (x26.length : Int)))] H (noU_all rfl) (fun fr => by kernel_rfl) ?_
              intro fr H
              have e1 := Option.some.inj hm
              subst e1
              exact at_nil ⟨rfl, H.less _ (fun fr => by kernel_rfl)⟩
            · replace H := H.know 66 hb (by kernel_rfl)
              refine at_seg [(9, []), (10, []), (11, []), (12, []), (13, []), (14, []), (15, []), (16, []), (17, [])] [(75, .bool false)] H (noU_all rfl) (fun fr => by kernel_rfl) ?_
              intro fr H
              have e1 := Option.some.inj hm
              subst e1
              exact at_nil ⟨rfl, H.less _ (fun fr => by kernel_rfl)⟩
          · intro t fr h' hK
            obtain ⟨e, H⟩ := hK
            subst e
            refine at_seg [(18, [])] [(4, .bool x23)] H (noU_all rfl) (fun fr => by kernel_rfl) ?_
            intro fr H
            refine at_nil ?_
            show AW cfg 32 g (right (left (right (right (right (right (right (right (right (left (right (left (right (right (right (bodyC cfg.P 32)))))))))))))))) fr h6 _
            refine aw_ret (by kernel_rfl) ?_
            obtain ⟨e1, e2⟩ := inj2 hm
            subst e2
            subst e1
            exact (done_ret H (fun fr => by kernel_rfl) rfl : doneQ cfg.P _ _ _ _ fr _)
        · replace H := H.know 56 hb (by kernel_rfl)
          refine aw_false (x := .tmp 56) (by kernel_rfl) H (fun fr => by kernel_rfl) ?_
          refine aw_seq (by kernel_rfl) ?_
          refine aw_reg (id := 12) (n := 2) [(0, []), (1, [])] (by kernel_rfl) (by kernel_rfl) ?_
          refine at_seg [(0, []), (1, [])] [(2, .ptr (some (h.size, 0))), (3, .ptr (some (h1.size, 0))), (5, .ptr (some (h2.size, 0))), (6, .ptr (some (h4.size, 0))), (18, .int .i64 x5), (76, .bool (x5 == (3 : Int)))] H (noU_all rfl) (fun fr => by kernel_rfl) ?_
          intro fr H
          refine at_nil ?_
          show AW cfg 32 g (right (right (right (right (right (right (right (right (right (left (right (left (right (right (right (bodyC cfg.P 32)))))))))))))))) fr h6 _
          rcases iteB_some hm with ⟨hb, hm⟩ | ⟨hb, hm⟩
          · replace H := H.know 76 hb (by kernel_rfl)
            refine aw_true (x := .tmp 76) (by kernel_rfl) H (fun fr => by kernel_rfl) ?_
            refine aw_seq (by kernel_rfl) ?_
            refine aw_reg (id := 13) (n := 19) [(0, []), (1, []), (2, []), (3, []), (4, []), (5, []), (6, []), (7, []), (8, []), (9, []), (10, []), (11, []), (12, []), (13, []), (14, []), (15, []), (16, []), (17, []), (18, [])] (by kernel_rfl) (by kernel_rfl) ?_
            obtain ⟨⟨a6, _⟩, hx, hm⟩ := bind_some hm
            obtain ⟨l0, hx, hc⟩ := ldF_eq hx
            obtain ⟨v1, l1, ec1, fc1, hc⟩ := cap_eq hc
            have fc1 := asA_eq fc1
            have ec0 := capN_eq hc
            subst ec0
            subst fc1
            subst ec1
            refine at_step (v := .func (.func 37) [] [.ptr (some a6)]) (h1 := h6) [(3, .ptr (some (h1.size, 0))), (5, .ptr (some (h2.size, 0))), (6, .ptr (some (h4.size, 0))), (78, .func (.func 37) [] [.ptr (some (a6.1, a6.2))])] H (fun fr => by kernel_rfl) (fun fr => .of (s_ld (by kernel_rfl) hx)) ?_
            intro fr t H
            refine at_seg [(1, [])] [(3, .ptr (some (h1.size, 0))), (5, .ptr (some (h2.size, 0))), (6, .ptr (some (h4.size, 0))), (78, .func (.func 37) [] [.ptr (some (a6.1, a6.2))]), (79, .ptr (some (h2.size, 1)))] H (noU_all rfl) (fun fr => by kernel_rfl) ?_
            intro fr H
            obtain ⟨x27, hx, hm⟩ := bind_some hm
            refine at_step (v := .int .i64 x27) (h1 := h6) [(3, .ptr (some (h1.size, 0))), (5, .ptr (some (h2.size, 0))), (6, .ptr (some (h4.size, 0))), (78, .func (.func 37) [] [.ptr (some (a6.1, a6.2))]), (80, .int .i64 x27)] H (fun fr => by kernel_rfl) (fun fr => .of (s_ld (by kernel_rfl) (ldI_eq hx))) ?_
            intro fr t H
            refine at_seg [(3, [])] [(3, .ptr (some (h1.size, 0))), (5, .ptr (some (h2.size, 0))), (6, .ptr (some (h4.size, 0))), (78, .func (.func 37) [] [.ptr (some (a6.1, a6.2))]), (80, .int .i64 x27), (81, .ptr (some (h1.size, 2)))] H (noU_all rfl) (fun fr => by kernel_rfl) ?_
            intro fr H
            obtain ⟨x28, hx, hm⟩ := bind_some hm
            refine at_step (v := .int .i64 x28) (h1 := h6) [(3, .ptr (some (h1.size, 0))), (5, .ptr (some (h2.size, 0))), (6, .ptr (some (h4.size, 0))), (78, .func (.func 37) [] [.ptr (some (a6.1, a6.2))]), (80, .int .i64 x27), (82, .int .i64 x28)] H (fun fr => by kernel_rfl) (fun fr => .of (s_ld (by kernel_rfl) (ldI_eq hx))) ?_
            intro fr t H
            refine at_seg [(5, [])] [(3, .ptr (some (h1.size, 0))), (5, .ptr (some (h2.size, 0))), (6, .ptr (some (h4.size, 0))), (78, .func (.func 37) [] [.ptr (some (a6.1, a6.2))]), (80, .int .i64 x27), (82, .int .i64 x28), (83, .ptr (some (h1.size, 3)))] H (noU_all rfl) (fun fr => by kernel_rfl) ?_
            intro fr H
            obtain ⟨x29, hx, hm⟩ := bind_some hm
            refine at_step (v := .int .i64 x29) (h1 := h6) [(3, .ptr (some (h1.size, 0))), (5, .ptr (some (h2.size, 0))), (6, .ptr (some (h4.size, 0))), (78, .func (.func 37) [] [.ptr (some (a6.1, a6.2))]), (80, .int .i64 x27), (82, .int .i64 x28), (84, .int .i64 x29)] H (fun fr => by kernel_rfl) (fun fr => .of (s_ld (by kernel_rfl) (ldI_eq hx))) ?_
            intro fr t H
            obtain ⟨⟨x30, h7⟩, hx, hm⟩ := bind_some hm
            refine at_step (v := .bool x30) (h1 := h7) [(3, .ptr (some (h1.size, 0))), (5, .ptr (some (h2.size, 0))), (6, .ptr (some (h4.size, 0))), (85, .bool x30)] H (fun fr => by kernel_rfl) (fun fr => Steps.call (by kernel_rfl) (hS.ok_tree_asker_does_1_s0 hx)) ?_
            intro fr t H
            refine at_seg [(8, [])] [(3, .ptr (some (h1.size, 0))), (5, .ptr (some (h2.size, 0))), (6, .ptr (some (h4.size, 0))), (86, .bool x30)] H (noU_all rfl) (fun fr => by kernel_rfl) ?_
            intro fr H
            obtain ⟨⟨x31, h8⟩, ho, hm⟩ := bind_some hm
            refine at_cut [(9, []), (10, []), (11, []), (12, []), (13, []), (14, []), (15, []), (16, []), (17, [])] (fun fr' h' => h8 = h' ∧ Has fr' 117 [(95, .bool x31)]) ?_ ?_
            · rcases iteB_some ho with ⟨hb, hm⟩ | ⟨hb, hm⟩
              · replace H := H.know 86 hb (by kernel_rfl)
                refine at_seg [(9, []), (10, []), (11, []), (12, []), (13, []), (14, []), (15, []), (16, []), (17, [])] [(95, .bool true)] H (noU_all rfl) (fun fr => by kernel_rfl) ?_
                intro fr H
                have e0 := Option.some.inj hm
                obtain ⟨e1, f1⟩ := Prod.mk.inj e0
                subst e1
                subst f1
                exact at_nil ⟨rfl, H.less _ (fun fr => by kernel_rfl)⟩
              · replace H := H.know 86 hb (by kernel_rfl)
                obtain ⟨⟨a7, _⟩, hx, hm⟩ := bind_some hm
                obtain ⟨l0, hx, hc⟩ := ldF_eq hx
                obtain ⟨v1, l1, ec1, fc1, hc⟩ := cap_eq hc
                have fc1 := asA_eq fc1
                have ec0 := capN_eq hc
                subst ec0
                subst fc1
                subst ec1
                refine at_step (v := .func (.func 37) [] [.ptr (some a7)]) (h1 := h7) [(3, .ptr (some (h1.size, 0))), (5, .ptr (some (h2.size, 0))), (86, .bool false), (87, .func (.func 37) [] [.ptr (some (a7.1, a7.2))])] H (fun fr => by kernel_rfl) (fun fr => .of (s_ld (by kernel_rfl) hx)) ?_
                intro fr t H
                refine at_seg [(10, [])] [(3, .ptr (some (h1.size, 0))), (86, .bool false), (87, .func (.func 37) [] [.ptr (some (a7.1, a7.2))]), (88, .ptr (some (h2.size, 2)))] H (noU_all rfl) (fun fr => by kernel_rfl) ?_
                intro fr H
                obtain ⟨x32, hx, hm⟩ := bind_some hm
                refine at_step (v := .int .i64 x32) (h1 := h7) [(3, .ptr (some (h1.size, 0))), (86, .bool false), (87, .func (.func 37) [] [.ptr (some (a7.1, a7.2))]), (89, .int .i64 x32)] H (fun fr => by kernel_rfl) (fun fr => .of (s_ld (by kernel_rfl) (ldI_eq hx))) ?_
                intro fr t H
                refine at_seg [(12, [])] [(3, .ptr (some (h1.size, 0))), (86, .bool false), (87, .func (.func 37) [] [.ptr (some (a7.1, a7.2))]), (89, .int .i64 x32), (90, .ptr (some (h1.size, 2)))] H (noU_all rfl) (fun fr => by kernel_rfl) ?_
                intro fr H
                obtain ⟨x33, hx, hm⟩ := bind_some hm
                refine at_step (v := .int .i64 x33) (h1 := h7) [(3, .ptr (some (h1.size, 0))), (86, .bool false), (87, .func (.func 37) [] [.ptr (some (a7.1, a7.2))]), (89, .int .i64 x32), (91, .int .i64 x33)] H (fun fr => by kernel_rfl) (fun fr => .of (s_ld (by kernel_rfl) (ldI_eq hx))) ?_
                intro fr t H
                refine at_seg [(14, [])] [(86, .bool false), (87, .func (.func 37) [] [.ptr (some (a7.1, a7.2))]), (89, .int .i64 x32), (91, .int .i64 x33), (92, .ptr (some (h1.size, 3)))] H (noU_all rfl) (fun fr => by kernel_rfl) ?_
                intro fr H
                obtain ⟨x34, hx, hm⟩ := bind_some hm
                refine at_step (v := .int .i64 x34) (h1 := h7) [(86, .bool false), (87, .func (.func 37) [] [.ptr (some (a7.1, a7.2))]), (89, .int .i64 x32), (91, .int .i64 x33), (93, .int .i64 x34)] H (fun fr => by kernel_rfl) (fun fr => .of (s_ld (by kernel_rfl) (ldI_eq hx))) ?_
                intro fr t H
                obtain ⟨⟨x35, h9⟩, hx, hm⟩ := bind_some hm
                refine at_step (v := .bool x35) (h1 := h9) [(86, .bool false), (94, .bool x35)] H (fun fr => by kernel_rfl) (fun fr => Steps.call (by kernel_rfl) (hS.ok_tree_asker_does_1_s0 hx)) ?_
                intro fr t H
                refine at_seg [(17, [])] [(95, .bool x35)] H (noU_all rfl) (fun fr => by kernel_rfl) ?_
                intro fr H
                have e0 := Option.some.inj hm
                obtain ⟨e1, f1⟩ := Prod.mk.inj e0
                subst e1
                subst f1
                exact at_nil ⟨rfl, H.less _ (fun fr => by kernel_rfl)⟩
            · intro t fr h' hK
              obtain ⟨e, H⟩ := hK
              subst e
              refine at_seg [(18, [])] [(4, .bool x31)] H (noU_all rfl) (fun fr => by kernel_rfl) ?_
              intro fr H
              refine at_nil ?_
              show AW cfg 32 g (right (left (right (right (right (right (right (right (right (right (right (left (right (left (right (right (right (bodyC cfg.P 32)))))))))))))))))) fr h8 _
              refine aw_ret (by kernel_rfl) ?_
              obtain ⟨e1, e2⟩ := inj2 hm
              subst e2
              subst e1
              exact (done_ret H (fun fr => by kernel_rfl) rfl : doneQ cfg.P _ _ _ _ fr _)
          · replace H := H.know 76 hb (by kernel_rfl)
            refine aw_false (x := .tmp 76) (by kernel_rfl) H (fun fr => by kernel_rfl) ?_
            refine aw_seq (by kernel_rfl) ?_
            refine aw_reg (id := 14) (n := 2) [(0, []), (1, [])] (by kernel_rfl) (by kernel_rfl) ?_
            refine at_seg [(0, []), (1, [])] [(2, .ptr (some (h.size, 0))), (3, .ptr (some (h1.size, 0))), (5, .ptr (some (h2.size, 0))), (6, .ptr (some (h4.size, 0))), (18, .int .i64 x5), (96, .bool (x5 == (5 : Int)))] H (noU_all rfl) (fun fr => by kernel_rfl) ?_
            intro fr H
            refine at_nil ?_
            show AW cfg 32 g (right (right (right (right (right (right (right (right (right (right (right (left (right (left (right (right (right (bodyC cfg.P 32)))))))))))))))))) fr h6 _
            rcases iteB_some hm with ⟨hb, hm⟩ | ⟨hb, hm⟩
            · replace H := H.know 96 hb (by kernel_rfl)
              refine aw_true (x := .tmp 96) (by kernel_rfl) H (fun fr => by kernel_rfl) ?_
              refine aw_seq (by kernel_rfl) ?_
              refine aw_reg (id := 15) (n := 9) [(0, []), (1, []), (2, []), (3, []), (4, []), (5, []), (6, []), (7, []), (8, [])] (by kernel_rfl) (by kernel_rfl) ?_
              obtain ⟨⟨a8, _⟩, hx, hm⟩ := bind_some hm
              obtain ⟨l0, hx, hc⟩ := ldF_eq hx
              obtain ⟨v1, l1, ec1, fc1, hc⟩ := cap_eq hc
              have fc1 := asA_eq fc1
              have ec0 := capN_eq hc
              subst ec0
              subst fc1
              subst ec1
              refine at_step (v := .func (.func 37) [] [.ptr (some a8)]) (h1 := h6) [(3, .ptr (some (h1.size, 0))), (5, .ptr (some (h2.size, 0))), (98, .func (.func 37) [] [.ptr (some (a8.1, a8.2))])] H (fun fr => by kernel_rfl) (fun fr => .of (s_ld (by kernel_rfl) hx)) ?_
              intro fr t H
              refine at_seg [(1, [])] [(3, .ptr (some (h1.size, 0))), (98, .func (.func 37) [] [.ptr (some (a8.1, a8.2))]), (99, .ptr (some (h2.size, 1)))] H (noU_all rfl) (fun fr => by kernel_rfl) ?_
              intro fr H
              obtain ⟨x36, hx, hm⟩ := bind_some hm
              refine at_step (v := .int .i64 x36) (h1 := h6) [(3, .ptr (some (h1.size, 0))), (98, .func (.func 37) [] [.ptr (some (a8.1, a8.2))]), (100, .int .i64 x36)] H (fun fr => by kernel_rfl) (fun fr => .of (s_ld (by kernel_rfl) (ldI_eq hx))) ?_
              intro fr t H
              refine at_seg [(3, [])] [(3, .ptr (some (h1.size, 0))), (98, .func (.func 37) [] [.ptr (some (a8.1, a8.2))]), (100, .int .i64 x36), (101, .ptr (some (h1.size, 2)))] H (noU_all rfl) (fun fr => by kernel_rfl) ?_
              intro fr H
              obtain ⟨x37, hx, hm⟩ := bind_some hm
              refine at_step (v := .int .i64 x37) (h1 := h6) [(3, .ptr (some (h1.size, 0))), (98, .func (.func 37) [] [.ptr (some (a8.1, a8.2))]), (100, .int .i64 x36), (102, .int .i64 x37)] H (fun fr => by kernel_rfl) (fun fr => .of (s_ld (by kernel_rfl) (ldI_eq hx))) ?_
              intro fr t H
              refine at_seg [(5, [])] [(98, .func (.func 37) [] [.ptr (some (a8.1, a8.2))]), (100, .int .i64 x36), (102, .int .i64 x37), (103, .ptr (some (h1.size, 3)))] H (noU_all rfl) (fun fr => by kernel_rfl) ?_
              intro fr H
              obtain ⟨x38, hx, hm⟩ := bind_some hm
              refine at_step (v := .int .i64 x38) (h1 := h6) [(98, .func (.func 37) [] [.ptr (some (a8.1, a8.2))]), (100, .int .i64 x36), (102, .int .i64 x37), (104, .int .i64 x38)] H (fun fr => by kernel_rfl) (fun fr => .of (s_ld (by kernel_rfl) (ldI_eq hx))) ?_
              intro fr t H
              obtain ⟨⟨x39, h10⟩, hx, hm⟩ := bind_some hm
              refine at_step (v := .bool x39) (h1 := h10) [(105, .bool x39)] H (fun fr => by kernel_rfl) (fun fr => Steps.call (by kernel_rfl) (hS.ok_tree_asker_does_1_s0 hx)) ?_
              intro fr t H
              refine at_seg [(8, [])] [(4, .bool x39)] H (noU_all rfl) (fun fr => by kernel_rfl) ?_
              intro fr H
              refine at_nil ?_
              show AW cfg 32 g (right (left (right (right (right (right (right (right (right (right (right (right (right (left (right (left (right (right (right (bodyC cfg.P 32)))))))))))))))))))) fr h10 _
              refine aw_ret (by kernel_rfl) ?_
              obtain ⟨e1, e2⟩ := inj2 hm
              subst e2
              subst e1
              exact (done_ret H (fun fr => by kernel_rfl) rfl : doneQ cfg.P _ _ _ _ fr _)
            · replace H := H.know 96 hb (by kernel_rfl)
              refine aw_false (x := .tmp 96) (by kernel_rfl) H (fun fr => by kernel_rfl) ?_
              refine aw_seq (by kernel_rfl) ?_
              refine aw_reg (id := 16) (n := 2) [(0, []), (1, [])] (by kernel_rfl) (by kernel_rfl) ?_
              refine at_seg [(0, []), (1, [])] [(2, .ptr (some (h.size, 0))), (3, .ptr (some (h1.size, 0))), (5, .ptr (some (h2.size, 0))), (6, .ptr (some (h4.size, 0))), (106, .bool (x5 == (2 : Int)))] H (noU_all rfl) (fun fr => by kernel_rfl) ?_
              intro fr H
              refine at_nil ?_
              show AW cfg 32 g (right (right (right (right (right (right (right (right (right (right (right (right (right (left (right (left (right (right (right (bodyC cfg.P 32)))))))))))))))))))) fr h6 _
              rcases iteB_some hm with ⟨hb, hm⟩ | ⟨hb, hm⟩
              · replace H := H.know 106 hb (by kernel_rfl)
                refine aw_true (x := .tmp 106) (by kernel_rfl) H (fun fr => by kernel_rfl) ?_
                refine aw_seq (by kernel_rfl) ?_
                refine aw_reg (id := 17) (n := 6) [(0, []), (1, []), (2, []), (3, []), (4, []), (5, [])] (by kernel_rfl) (by kernel_rfl) ?_
                obtain ⟨x40, hx, hm⟩ := bind_some hm
                refine at_step (v := .ptr x40) (h1 := h6) [(3, .ptr (some (h1.size, 0))), (5, .ptr (some (h2.size, 0))), (6, .ptr (some (h4.size, 0))), (108, .ptr x40)] H (fun fr => by kernel_rfl) (fun fr => .of (s_ld (by kernel_rfl) (ldP_eq hx))) ?_
                intro fr t H
                obtain ⟨x41, hx, hm⟩ := bind_some hm
                refine at_step (v := .agg x41) (h1 := h6) [(3, .ptr (some (h1.size, 0))), (5, .ptr (some (h2.size, 0))), (6, .ptr (some (h4.size, 0))), (108, .ptr x40), (109, .agg x41)] H (fun fr => by kernel_rfl) (fun fr => .of (s_ldA (by kernel_rfl) hx)) ?_
                intro fr t H
                refine at_seg [(2, []), (3, [])] [(108, .ptr x40), (109, .agg x41), (110, .func (.func 39) [] [.ptr (some (h4.size, 0)), .ptr (some (h2.size, 0)), .ptr (some (h1.size, 0))]), (111, .func (.func 40) [] [.ptr (some (h4.size, 0)), .ptr (some (h2.size, 0)), .ptr (some (h1.size, 0))])] H (noU_all rfl) (fun fr => by kernel_rfl) ?_
                intro fr H
                obtain ⟨⟨x42, h11⟩, hx, hm⟩ := bind_some hm
                refine at_step (v := .bool x42) (h1 := h11) [(112, .bool x42)] H (fun fr => by kernel_rfl) (fun fr => Steps.call (by kernel_rfl) (hS.ok_tree_asker_cut_s0 hx)) ?_
                intro fr t H
                refine at_seg [(5, [])] [(4, .bool x42)] H (noU_all rfl) (fun fr => by kernel_rfl) ?_
                intro fr H
                refine at_nil ?_
                show AW cfg 32 g (right (left (right (right (right (right (right (right (right (right (right (right (right (right (right (left (right (left (right (right (right (bodyC cfg.P 32)))))))))))))))))))))) fr h11 _
                refine aw_ret (by kernel_rfl) ?_
                obtain ⟨e1, e2⟩ := inj2 hm
                subst e2
                subst e1
                exact (done_ret H (fun fr => by kernel_rfl) rfl : doneQ cfg.P _ _ _ _ fr _)
              · replace H := H.know 106 hb (by kernel_rfl)
                refine aw_false (x := .tmp 106) (by kernel_rfl) H (fun fr => by kernel_rfl) ?_
                refine aw_skip (by kernel_rfl) ?_
                show AW cfg 32 g (right (right (right (right (bodyC cfg.P 32))))) fr h6 _
                refine aw_seq (by kernel_rfl) ?_
                refine aw_reg (id := 18) (n := 5) [(0, []), (1, []), (2, []), (3, []), (4, [])] (by kernel_rfl) (by kernel_rfl) ?_
                obtain ⟨x43, hx, hm⟩ := bind_some hm
                refine at_step (v := .ptr x43) (h1 := h6) [(3, .ptr (some (h1.size, 0))), (5, .ptr (some (h2.size, 0))), (113, .ptr x43)] H (fun fr => by kernel_rfl) (fun fr => .of (s_ld (by kernel_rfl) (ldP_eq hx))) ?_
                intro fr t H
                obtain ⟨x44, hx, hm⟩ := bind_some hm
                refine at_step (v := .agg x44) (h1 := h6) [(5, .ptr (some (h2.size, 0))), (113, .ptr x43), (114, .agg x44)] H (fun fr => by kernel_rfl) (fun fr => .of (s_ldA (by kernel_rfl) hx)) ?_
                intro fr t H
                obtain ⟨x45, hx, hm⟩ := bind_some hm
                refine at_step (v := .agg x45) (h1 := h6) [(113, .ptr x43), (114, .agg x44), (115, .agg x45)] H (fun fr => by kernel_rfl) (fun fr => .of (s_ldA (by kernel_rfl) hx)) ?_
                intro fr t H
                obtain ⟨⟨x46, h12⟩, hx, hm⟩ := bind_some hm
                refine at_step (v := .bool x46) (h1 := h12) [(116, .bool x46)] H (fun fr => by kernel_rfl) (fun fr => Steps.call (by kernel_rfl) (hS.ok_tree_asker_repeats hx)) ?_
                intro fr t H
                refine at_seg [(4, [])] [(4, .bool x46)] H (noU_all rfl) (fun fr => by kernel_rfl) ?_
                intro fr H
                refine at_nil ?_
                show AW cfg 32 g (right (right (right (right (right (bodyC cfg.P 32)))))) fr h12 _
                refine aw_ret (by kernel_rfl) ?_
                obtain ⟨e1, e2⟩ := inj2 hm
                subst e2
                subst e1
                exact (done_ret H (fun fr => by kernel_rfl) rfl : doneQ cfg.P _ _ _ _ fr _)
/-! ### (*boulter/tree.asker).cut -/
noncomputable def M_tree_asker_cut_s0_L0 (S : SC_tree_asker_does_1_s0) (g : Gd) (h : AHeap) (p2c0 : Nat × Nat) (p2c1 : Nat × Nat) (p2c2 : Nat × Nat) (p3c0 : Nat × Nat) (p3c1 : Nat × Nat) (p3c2 : Nat × Nat) (s : Int × AHeap) : Option ((Int × AHeap) ⊕ ((AHeap) ⊕ (Bool × AHeap))) :=
  match s with
  | (x4, h2) => (ldI h2 (h.size, 3) .i64).bind fun x5 => iteB (decide (x4 ≤ x5)) ((S.M_tree_asker_does_2_s0 g h2 x4 (p2c0.1, p2c0.2) (p2c1.1, p2c1.2) (p2c2.1, p2c2.2)).bind fun (x6, h3) => (iteB x6 ((S.M_tree_asker_does_3_s0 g h3 x4 (p3c0.1, p3c0.2) (p3c1.1, p3c1.2) (p3c2.1, p3c2.2)).bind fun (x8, h5) => some (x8, h5)) (some (false, h3)) : Option (Bool × AHeap)).bind fun (x7, h4) => iteB x7 (some (.inr (.inr (true, h4)))) (some (.inl (IntKind.i64.wrap (x4 + (1 : Int)), h4)))) (some (.inr (.inl h2)))
noncomputable def B_tree_asker_cut_s0 (S : SC_tree_asker_does_1_s0) (g : Gd) (h : AHeap) (p0 : Option (Nat × Nat)) (p1 : List AVal) (p2c0 : Nat × Nat) (p2c1 : Nat × Nat) (p2c2 : Nat × Nat) (p3c0 : Nat × Nat) (p3c1 : Nat × Nat) (p3c2 : Nat × Nat) : Option ((Bool) × AHeap) :=
 need (p1.all AVal.one) <| (some (h.push (.cells none 2 p1))).bind fun h1 => (ldI h1 (h.size, 2) .i64).bind fun x1 => (loop (M_tree_asker_cut_s0_L0 S g h p2c0 p2c1 p2c2 p3c0 p3c1 p3c2) (x1, h1)).bind fun o1 => (match o1 with | .inl h6 => some (false, h6) | .inr (x3, h6) => some (x3, h6))
theorem okB_tree_asker_cut_s0 {S : SC_tree_asker_does_1_s0} (hS : OkSC_tree_asker_does_1_s0 S) {g : Gd} {h h' : AHeap} {p0 : Option (Nat × Nat)} {p1 : List AVal} {p2c0 : Nat × Nat} {p2c1 : Nat × Nat} {p2c2 : Nat × Nat} {p3c0 : Nat × Nat} {p3c1 : Nat × Nat} {p3c2 : Nat × Nat} {r0 : Bool} (hm : B_tree_asker_cut_s0 S g h p0 p1 p2c0 p2c1 p2c2 p3c0 p3c1 p3c2 = some (r0, h')) : Runs cfg g h 38 [.ptr p0, .agg p1, .func (.func 39) [] [.ptr (some (p2c0.1, p2c0.2)), .ptr (some (p2c1.1, p2c1.2)), .ptr (some (p2c2.1, p2c2.2))], .func (.func 40) [] [.ptr (some (p3c0.1, p3c0.2)), .ptr (some (p3c1.1, p3c1.2)), .ptr (some (p3c2.1, p3c2.2))]] (.bool r0) h' := by
  refine runs1 (by kernel_rfl) (body_of (n := 26) (rs := [.tmp 8]) (by kernel_rfl) ?_)
  unfold B_tree_asker_cut_s0 at hm
  refine start (n := 26) [(1, .agg p1), (2, .func (.func 39) [] [.ptr (some (p2c0.1, p2c0.2)), .ptr (some (p2c1.1, p2c1.2)), .ptr (some (p2c2.1, p2c2.2))]), (3, .func (.func 40) [] [.ptr (some (p3c0.1, p3c0.2)), .ptr (some (p3c1.1, p3c1.2)), .ptr (some (p3c2.1, p3c2.2))])] (by kernel_rfl) (by kernel_rfl) ?_
  intro fr H
  refine aw_seq (by kernel_rfl) ?_
  refine aw_reg (id := 0) (n := 2) [(0, []), (1, [])] (by kernel_rfl) (by kernel_rfl) ?_
  obtain ⟨hb, hm⟩ := need_some hm
  obtain ⟨h1, hx, hm⟩ := bind_some hm
  refine at_step (v := .ptr (some (h.size, 0))) (h1 := h1) [(2, .func (.func 39) [] [.ptr (some (p2c0.1, p2c0.2)), .ptr (some (p2c1.1, p2c1.2)), .ptr (some (p2c2.1, p2c2.2))]), (3, .func (.func 40) [] [.ptr (some (p3c0.1, p3c0.2)), .ptr (some (p3c1.1, p3c1.2)), .ptr (some (p3c2.1, p3c2.2))]), (5, .ptr (some (h.size, 0)))] H (fun fr => by kernel_rfl) (fun fr => .of (s_boxG (by kernel_rfl) hb hx)) ?_
  intro fr t H
  refine at_seg [(1, [])] [(2, .func (.func 39) [] [.ptr (some (p2c0.1, p2c0.2)), .ptr (some (p2c1.1, p2c1.2)), .ptr (some (p2c2.1, p2c2.2))]), (3, .func (.func 40) [] [.ptr (some (p3c0.1, p3c0.2)), .ptr (some (p3c1.1, p3c1.2)), .ptr (some (p3c2.1, p3c2.2))]), (5, .ptr (some (h.size, 0)))] H (noU_all rfl) (fun fr => by kernel_rfl) ?_
  intro fr H
  refine at_nil ?_
  show AW cfg 38 g (right (bodyC cfg.P 38)) fr h1 _
  refine aw_seq (by kernel_rfl) ?_
  refine aw_seq (by kernel_rfl) ?_
  refine aw_reg (id := 1) (n := 3) [(0, []), (1, []), (2, [])] (by kernel_rfl) (by kernel_rfl) ?_
  refine at_seg [(0, [])] [(2, .func (.func 39) [] [.ptr (some (p2c0.1, p2c0.2)), .ptr (some (p2c1.1, p2c1.2)), .ptr (some (p2c2.1, p2c2.2))]), (3, .func (.func 40) [] [.ptr (some (p3c0.1, p3c0.2)), .ptr (some (p3c1.1, p3c1.2)), .ptr (some (p3c2.1, p3c2.2))]), (5, .ptr (some (h.size, 0))), (10, .ptr (some (h.size, 2)))] H (noU_all rfl) (fun fr => by kernel_rfl) ?_
  intro fr H
  obtain ⟨x1, hx, hm⟩ := bind_some hm
  refine at_step (v := .int .i64 x1) (h1 := h1) [(2, .func (.func 39) [] [.ptr (some (p2c0.1, p2c0.2)), .ptr (some (p2c1.1, p2c1.2)), .ptr (some (p2c2.1, p2c2.2))]), (3, .func (.func 40) [] [.ptr (some (p3c0.1, p3c0.2)), .ptr (some (p3c1.1, p3c1.2)), .ptr (some (p3c2.1, p3c2.2))]), (5, .ptr (some (h.size, 0))), (11, .int .i64 x1)] H (fun fr => by kernel_rfl) (fun fr => .of (s_ld (by kernel_rfl) (ldI_eq hx))) ?_
  intro fr t H
  refine at_seg [(2, [])] [(2, .func (.func 39) [] [.ptr (some (p2c0.1, p2c0.2)), .ptr (some (p2c1.1, p2c1.2)), .ptr (some (p2c2.1, p2c2.2))]), (3, .func (.func 40) [] [.ptr (some (p3c0.1, p3c0.2)), .ptr (some (p3c1.1, p3c1.2)), .ptr (some (p3c2.1, p3c2.2))]), (5, .ptr (some (h.size, 0))), (9, .int .i64 x1)] H (noU_all rfl) (fun fr => by kernel_rfl) ?_
  intro fr H
  refine at_nil ?_
  show AW cfg 38 g (right (left (right (bodyC cfg.P 38)))) fr h1 _
  refine aw_block (id := 0) (by kernel_rfl) ?_
  obtain ⟨o1, ho, hm⟩ := bind_some hm
  refine aw_mono (Q' := fun e fr' h' => (e = .exit 0 ∧ .inl h' = o1 ∧ h' = h' ∧ Has fr' 26 []) ∨ (∃ (x3 : Bool), e = .ret ∧ .inr (x3, h') = o1 ∧ h' = h' ∧ Has fr' 26 [(8, .bool x3)]) ∨ False) ?_ ?_
  · refine aw_loop (by kernel_rfl) (fun (s : Int × AHeap) fr' h' => ∃ (x4 : Int), (x4, h') = s ∧ h' = h' ∧ Has fr' 26 [(2, .func (.func 39) [] [.ptr (some (p2c0.1, p2c0.2)), .ptr (some (p2c1.1, p2c1.2)), .ptr (some (p2c2.1, p2c2.2))]), (3, .func (.func 40) [] [.ptr (some (p3c0.1, p3c0.2)), .ptr (some (p3c1.1, p3c1.2)), .ptr (some (p3c2.1, p3c2.2))]), (5, .ptr (some (h.size, 0))), (9, .int .i64 x4)]) ho ⟨x1, rfl, rfl, H.less _ (fun fr => by kernel_rfl)⟩ ?_
    clear ho hm H
    intro s q fr h2 hI hm
    obtain ⟨x4, rfl, _, H⟩ := hI
    unfold M_tree_asker_cut_s0_L0 at hm
    refine aw_seq (by kernel_rfl) ?_
    refine aw_seq (by kernel_rfl) ?_
    refine aw_reg (id := 2) (n := 4) [(0, []), (1, []), (2, []), (3, [])] (by kernel_rfl) (by kernel_rfl) ?_
    refine at_seg [(0, []), (1, [])] [(2, .func (.func 39) [] [.ptr (some (p2c0.1, p2c0.2)), .ptr (some (p2c1.1, p2c1.2)), .ptr (some (p2c2.1, p2c2.2))]), (3, .func (.func 40) [] [.ptr (some (p3c0.1, p3c0.2)), .ptr (some (p3c1.1, p3c1.2)), .ptr (some (p3c2.1, p3c2.2))]), (5, .ptr (some (h.size, 0))), (9, .int .i64 x4), (12, .int .i64 x4), (13, .ptr (some (h.size, 3)))] H (noU_all rfl) (fun fr => by kernel_rfl) ?_
    intro fr H
    obtain ⟨x5, hx, hm⟩ := bind_some hm
    refine at_step (v := .int .i64 x5) (h1 := h2) [(2, .func (.func 39) [] [.ptr (some (p2c0.1, p2c0.2)), .ptr (some (p2c1.1, p2c1.2)), .ptr (some (p2c2.1, p2c2.2))]), (3, .func (.func 40) [] [.ptr (some (p3c0.1, p3c0.2)), .ptr (some (p3c1.1, p3c1.2)), .ptr (some (p3c2.1, p3c2.2))]), (5, .ptr (some (h.size, 0))), (9, .int .i64 x4), (12, .int .i64 x4), (14, .int .i64 x5)] H (fun fr => by kernel_rfl) (fun fr => .of (s_ld (by kernel_rfl) (ldI_eq hx))) ?_
    intro fr t H
    refine at_seg [(3, [])] [(2, .func (.func 39) [] [.ptr (some (p2c0.1, p2c0.2)), .ptr (some (p2c1.1, p2c1.2)), .ptr (some (p2c2.1, p2c2.2))]), (3, .func (.func 40) [] [.ptr (some (p3c0.1, p3c0.2)), .ptr (some (p3c1.1, p3c1.2)), .ptr (some (p3c2.1, p3c2.2))]), (5, .ptr (some (h.size, 0))), (9, .int .i64 x4), (15, .bool (decide (x4 ≤ x5)))] H (noU_all rfl) (fun fr => by kernel_rfl) ?_
    intro fr H
    refine at_nil ?_
    show AW cfg 38 g (right (left (left (left (right (left (right (bodyC cfg.P 38)))))))) fr h2 _
    rcases iteB_some hm with ⟨hb, hm⟩ | ⟨hb, hm⟩
    · replace H := H.know 15 hb (by kernel_rfl)
      refine aw_true (x := .tmp 15) (by kernel_rfl) H (fun fr => by kernel_rfl) ?_
      refine aw_skip (by kernel_rfl) ?_
      show AW cfg 38 g (right (left (left (right (left (right (bodyC cfg.P 38))))))) fr h2 _
      refine aw_seq (by kernel_rfl) ?_
      refine aw_block (id := 1) (by kernel_rfl) ?_
      refine aw_seq (by kernel_rfl) ?_
      refine aw_reg (id := 4) (n := 8) [(0, []), (1, []), (2, []), (3, []), (4, []), (5, []), (6, []), (7, [])] (by kernel_rfl) (by kernel_rfl) ?_
      refine at_seg [(0, []), (1, [])] [(2, .func (.func 39) [] [.ptr (some (p2c0.1, p2c0.2)), .ptr (some (p2c1.1, p2c1.2)), .ptr (some (p2c2.1, p2c2.2))]), (3, .func (.func 40) [] [.ptr (some (p3c0.1, p3c0.2)), .ptr (some (p3c1.1, p3c1.2)), .ptr (some (p3c2.1, p3c2.2))]), (5, .ptr (some (h.size, 0))), (9, .int .i64 x4), (18, .func (.func 39) [] [.ptr (some (p2c0.1, p2c0.2)), .ptr (some (p2c1.1, p2c1.2)), .ptr (some (p2c2.1, p2c2.2))]), (19, .int .i64 x4)] H (noU_all rfl) (fun fr => by kernel_rfl) ?_
      intro fr H
      obtain ⟨⟨x6, h3⟩, hx, hm⟩ := bind_some hm
      refine at_step (v := .bool x6) (h1 := h3) [(2, .func (.func 39) [] [.ptr (some (p2c0.1, p2c0.2)), .ptr (some (p2c1.1, p2c1.2)), .ptr (some (p2c2.1, p2c2.2))]), (3, .func (.func 40) [] [.ptr (some (p3c0.1, p3c0.2)), .ptr (some (p3c1.1, p3c1.2)), .ptr (some (p3c2.1, p3c2.2))]), (5, .ptr (some (h.size, 0))), (9, .int .i64 x4), (20, .bool x6)] H (fun fr => by kernel_rfl) (fun fr => Steps.call (by kernel_rfl) (hS.ok_tree_asker_does_2_s0 hx)) ?_
      intro fr t H
      refine at_seg [(3, [])] [(2, .func (.func 39) [] [.ptr (some (p2c0.1, p2c0.2)), .ptr (some (p2c1.1, p2c1.2)), .ptr (some (p2c2.1, p2c2.2))]), (3, .func (.func 40) [] [.ptr (some (p3c0.1, p3c0.2)), .ptr (some (p3c1.1, p3c1.2)), .ptr (some (p3c2.1, p3c2.2))]), (5, .ptr (some (h.size, 0))), (9, .int .i64 x4), (21, .bool x6)] H (noU_all rfl) (fun fr => by kernel_rfl) ?_
      intro fr H
      obtain ⟨⟨x7, h4⟩, ho, hm⟩ := bind_some hm
      refine at_cut [(4, []), (5, []), (6, []), (7, [])] (fun fr' h' => h4 = h' ∧ Has fr' 26 [(2, .func (.func 39) [] [.ptr (some (p2c0.1, p2c0.2)), .ptr (some (p2c1.1, p2c1.2)), .ptr (some (p2c2.1, p2c2.2))]), (3, .func (.func 40) [] [.ptr (some (p3c0.1, p3c0.2)), .ptr (some (p3c1.1, p3c1.2)), .ptr (some (p3c2.1, p3c2.2))]), (5, .ptr (some (h.size, 0))), (9, .int .i64 x4), (25, .bool x7)]) ?_ ?_
      · rcases iteB_some ho with ⟨hb, hm⟩ | ⟨hb, hm⟩
        · replace H := H.know 21 hb (by kernel_rfl)
          refine at_seg [(4, []), (5, [])] [(2, .func (.func 39) [] [.ptr (some (p2c0.1, p2c0.2)), .ptr (some (p2c1.1, p2c1.2)), .ptr (some (p2c2.1, p2c2.2))]), (3, .func (.func 40) [] [.ptr (some (p3c0.1, p3c0.2)), .ptr (some (p3c1.1, p3c1.2)), .ptr (some (p3c2.1, p3c2.2))]), (5, .ptr (some (h.size, 0))), (9, .int .i64 x4), (21, .bool true), (22, .func (.func 40) [] [.ptr (some (p3c0.1, p3c0.2)), .ptr (some (p3c1.1, p3c1.2)), .ptr (some (p3c2.1, p3c2.2))]), (23, .int .i64 x4)] H (noU_all rfl) (fun fr => by kernel_rfl) ?_
          intro fr H
          obtain ⟨⟨x8, h5⟩, hx, hm⟩ := bind_some hm
          refine at_step (v := .bool x8) (h1 := h5) [(2, .func (.func 39) [] [.ptr (some (p2c0.1, p2c0.2)), .ptr (some (p2c1.1, p2c1.2)), .ptr (some (p2c2.1, p2c2.2))]), (3, .func (.func 40) [] [.ptr (some (p3c0.1, p3c0.2)), .ptr (some (p3c1.1, p3c1.2)), .ptr (some (p3c2.1, p3c2.2))]), (5, .ptr (some (h.size, 0))), (9, .int .i64 x4), (21, .bool true), (24, .bool x8)] H (fun fr => by kernel_rfl) (fun fr => Steps.call (by kernel_rfl) (hS.ok_tree_asker_does_3_s0 hx)) ?_
          intro fr t H
          refine at_seg [(7, [])] [(2, .func (.func 39) [] [.ptr (some (p2c0.1, p2c0.2)), .ptr (some (p2c1.1, p2c1.2)), .ptr (some (p2c2.1, p2c2.2))]), (3, .func (.func 40) [] [.ptr (some (p3c0.1, p3c0.2)), .ptr (some (p3c1.1, p3c1.2)), .ptr (some (p3c2.1, p3c2.2))]), (5, .ptr (some (h.size, 0))), (9, .int .i64 x4), (25, .bool x8)] H (noU_all rfl) (fun fr => by kernel_rfl) ?_
          intro fr H
          have e0 := Option.some.inj hm
          obtain ⟨e1, f1⟩ := Prod.mk.inj e0
          subst e1
          subst f1
          exact at_nil ⟨rfl, H.less _ (fun fr => by kernel_rfl)⟩
        · replace H := H.know 21 hb (by kernel_rfl)
          refine at_seg [(4, []), (5, []), (6, []), (7, [])] [(2, .func (.func 39) [] [.ptr (some (p2c0.1, p2c0.2)), .ptr (some (p2c1.1, p2c1.2)), .ptr (some (p2c2.1, p2c2.2))]), (3, .func (.func 40) [] [.ptr (some (p3c0.1, p3c0.2)), .ptr (some (p3c1.1, p3c1.2)), .ptr (some (p3c2.1, p3c2.2))]), (5, .ptr (some (h.size, 0))), (9, .int .i64 x4), (25, .bool false)] H (noU_all rfl) (fun fr => by kernel_rfl) ?_
          intro fr H
          have e0 := Option.some.inj hm
          obtain ⟨e1, f1⟩ := Prod.mk.inj e0
          subst e1
          subst f1
          exact at_nil ⟨rfl, H.less _ (fun fr => by kernel_rfl)⟩
      · intro t fr h' hK
        obtain ⟨e, H⟩ := hK
        subst e
        refine at_nil ?_
        show AW cfg 38 g (right (left (left (right (left (left (right (left (right (bodyC cfg.P 38)))))))))) fr h4 _
        rcases iteB_some hm with ⟨hb, hm⟩ | ⟨hb, hm⟩
        · replace H := H.know 25 hb (by kernel_rfl)
          refine aw_true (x := .tmp 25) (by kernel_rfl) H (fun fr => by kernel_rfl) ?_
          refine aw_seq (by kernel_rfl) ?_
          refine aw_reg (id := 5) (n := 1) [(0, [])] (by kernel_rfl) (by kernel_rfl) ?_
          refine at_seg [(0, [])] [(8, .bool true)] H (noU_all rfl) (fun fr => by kernel_rfl) ?_
          intro fr H
          refine at_nil ?_
          show AW cfg 38 g (right (left (right (left (left (right (left (left (right (left (right (bodyC cfg.P 38)))))))))))) fr h4 _
          refine aw_ret (by kernel_rfl) ?_
          exact Exists.intro _ (And.intro (Option.some.inj hm).symm (fun e => Or.inr (Or.inl ⟨true, rfl, e, rfl, H.less _ (fun fr => by kernel_rfl)⟩)))
        · replace H := H.know 25 hb (by kernel_rfl)
          refine aw_false (x := .tmp 25) (by kernel_rfl) H (fun fr => by kernel_rfl) ?_
          refine aw_skip (by kernel_rfl) ?_
          show AW cfg 38 g (right (right (left (left (right (left (right (bodyC cfg.P 38)))))))) fr h4 _
          refine aw_reg (id := 3) (n := 3) [(0, []), (1, []), (2, [])] (by kernel_rfl) (by kernel_rfl) ?_
          refine at_seg [(0, []), (1, []), (2, [])] [(2, .func (.func 39) [] [.ptr (some (p2c0.1, p2c0.2)), .ptr (some (p2c1.1, p2c1.2)), .ptr (some (p2c2.1, p2c2.2))]), (3, .func (.func 40) [] [.ptr (some (p3c0.1, p3c0.2)), .ptr (some (p3c1.1, p3c1.2)), .ptr (some (p3c2.1, p3c2.2))]), (5, .ptr (some (h.size, 0))), (9, .int .i64 (IntKind.i64.wrap (x4 + (1 : Int))))] H (noU_all rfl) (fun fr => by kernel_rfl) ?_
          intro fr H
          refine at_nil ?_
          exact Exists.intro (IntKind.i64.wrap (x4 + (1 : Int)), h4) (And.intro (Option.some.inj hm).symm ⟨IntKind.i64.wrap (x4 + (1 : Int)), rfl, rfl, H.less _ (fun fr => by kernel_rfl)⟩)
    · replace H := H.know 15 hb (by kernel_rfl)
      refine aw_false (x := .tmp 15) (by kernel_rfl) H (fun fr => by kernel_rfl) ?_
      refine aw_exit (i := 0) (by kernel_rfl) ?_
      exact Exists.intro _ (And.intro (Option.some.inj hm).symm (fun e => Or.inl ⟨rfl, e, rfl, H.less _ (fun fr => by kernel_rfl)⟩))
  · clear ho
    intro e fr h6 hQ
    rcases hQ with ⟨rfl, rfl, _, H⟩ | ⟨x3, rfl, rfl, _, H⟩ | hF
    · skip
      show AW cfg 38 g (right (right (bodyC cfg.P 38))) fr h6 _
      refine aw_seq (by kernel_rfl) ?_
      refine aw_reg (id := 6) (n := 1) [(0, [])] (by kernel_rfl) (by kernel_rfl) ?_
      refine at_seg [(0, [])] [(8, .bool false)] H (noU_all rfl) (fun fr => by kernel_rfl) ?_
      intro fr H
      refine at_nil ?_
      show AW cfg 38 g (right (right (right (bodyC cfg.P 38)))) fr h6 _
      refine aw_ret (by kernel_rfl) ?_
      obtain ⟨e1, e2⟩ := inj2 hm
      subst e2
      subst e1
      exact (done_ret H (fun fr => by kernel_rfl) rfl : doneQ cfg.P _ _ _ _ fr _)
    · skip
      obtain ⟨e1, e2⟩ := inj2 hm
      subst e2
      subst e1
      exact (done_ret H (fun fr => by kernel_rfl) rfl : doneQ cfg.P _ _ _ _ fr _)
    · exact hF.elim
/-! ### (*boulter/tree.asker).does$2 -/
noncomputable def B_tree_asker_does_2_s0 (S : SC_tree_asker_does_1_s0) (g : Gd) (h : AHeap) (p0 : Int) (p1 : Nat × Nat) (p2 : Nat × Nat) (p3 : Nat × Nat) : Option ((Bool) × AHeap) :=
 (ldF h (p1.1, p1.2) 37 (cap asA capN)).bind fun (a1, _) => (ldI h (p2.1, p2.2 + 1) .i64).bind fun x1 => (ldI h (p3.1, p3.2 + 2) .i64).bind fun x2 => (S.M_tree_asker_does_1_s0 g h x1 x2 p0 (a1.1, a1.2)).bind fun (x3, h1) => some (x3, h1)
theorem okB_tree_asker_does_2_s0 {S : SC_tree_asker_does_1_s0} (hS : OkSC_tree_asker_does_1_s0 S) {g : Gd} {h h' : AHeap} {p0 : Int} {p1 : Nat × Nat} {p2 : Nat × Nat} {p3 : Nat × Nat} {r0 : Bool} (hm : B_tree_asker_does_2_s0 S g h p0 p1 p2 p3 = some (r0, h')) : Runs cfg g h 39 [.int .i64 p0, .ptr (some (p1.1, p1.2)), .ptr (some (p2.1, p2.2)), .ptr (some (p3.1, p3.2))] (.bool r0) h' := by
  refine runs1 (by kernel_rfl) (body_of (n := 13) (rs := [.tmp 5]) (by kernel_rfl) ?_)
  unfold B_tree_asker_does_2_s0 at hm
  refine start (n := 13) [(0, .int .i64 p0), (1, .ptr (some (p1.1, p1.2))), (2, .ptr (some (p2.1, p2.2))), (3, .ptr (some (p3.1, p3.2)))] (by kernel_rfl) (by kernel_rfl) ?_
  intro fr H
  refine aw_seq (by kernel_rfl) ?_
  refine aw_reg (id := 0) (n := 1) [(0, [])] (by kernel_rfl) (by kernel_rfl) ?_
  refine at_seg [(0, [])] [(0, .int .i64 p0), (1, .ptr (some (p1.1, p1.2))), (2, .ptr (some (p2.1, p2.2))), (3, .ptr (some (p3.1, p3.2)))] H (noU_all rfl) (fun fr => by kernel_rfl) ?_
  intro fr H
  refine at_nil ?_
  show AW cfg 39 g (right (bodyC cfg.P 39)) fr h _
  refine aw_seq (by kernel_rfl) ?_
  refine aw_reg (id := 1) (n := 8) [(0, []), (1, []), (2, []), (3, []), (4, []), (5, []), (6, []), (7, [])] (by kernel_rfl) (by kernel_rfl) ?_
  obtain ⟨⟨a1, _⟩, hx, hm⟩ := bind_some hm
  obtain ⟨l0, hx, hc⟩ := ldF_eq hx
  obtain ⟨v1, l1, ec1, fc1, hc⟩ := cap_eq hc
  have fc1 := asA_eq fc1
  have ec0 := capN_eq hc
  subst ec0
  subst fc1
  subst ec1
  refine at_step (v := .func (.func 37) [] [.ptr (some a1)]) (h1 := h) [(0, .int .i64 p0), (2, .ptr (some (p2.1, p2.2))), (3, .ptr (some (p3.1, p3.2))), (6, .func (.func 37) [] [.ptr (some (a1.1, a1.2))])] H (fun fr => by kernel_rfl) (fun fr => .of (s_ld (by kernel_rfl) hx)) ?_
  intro fr t H
  refine at_seg [(1, [])] [(0, .int .i64 p0), (3, .ptr (some (p3.1, p3.2))), (6, .func (.func 37) [] [.ptr (some (a1.1, a1.2))]), (7, .ptr (some (p2.1, p2.2 + 1)))] H (noU_all rfl) (fun fr => by kernel_rfl) ?_
  intro fr H
  obtain ⟨x1, hx, hm⟩ := bind_some hm
  refine at_step (v := .int .i64 x1) (h1 := h) [(0, .int .i64 p0), (3, .ptr (some (p3.1, p3.2))), (6, .func (.func 37) [] [.ptr (some (a1.1, a1.2))]), (8, .int .i64 x1)] H (fun fr => by kernel_rfl) (fun fr => .of (s_ld (by kernel_rfl) (ldI_eq hx))) ?_
  intro fr t H
  refine at_seg [(3, [])] [(0, .int .i64 p0), (6, .func (.func 37) [] [.ptr (some (a1.1, a1.2))]), (8, .int .i64 x1), (9, .ptr (some (p3.1, p3.2 + 2)))] H (noU_all rfl) (fun fr => by kernel_rfl) ?_
  intro fr H
  obtain ⟨x2, hx, hm⟩ := bind_some hm
  refine at_step (v := .int .i64 x2) (h1 := h) [(0, .int .i64 p0), (6, .func (.func 37) [] [.ptr (some (a1.1, a1.2))]), (8, .int .i64 x1), (10, .int .i64 x2)] H (fun fr => by kernel_rfl) (fun fr => .of (s_ld (by kernel_rfl) (ldI_eq hx))) ?_
  intro fr t H
  refine at_seg [(5, [])] [(6, .func (.func 37) [] [.ptr (some (a1.1, a1.2))]), (8, .int .i64 x1), (10, .int .i64 x2), (11, .int .i64 p0)] H (noU_all rfl) (fun fr => by kernel_rfl) ?_
  intro fr H
  obtain ⟨⟨x3, h1⟩, hx, hm⟩ := bind_some hm
  refine at_step (v := .bool x3) (h1 := h1) [(12, .bool x3)] H (fun fr => by kernel_rfl) (fun fr => Steps.call (by kernel_rfl) (hS.ok_tree_asker_does_1_s0 hx)) ?_
  intro fr t H
  refine at_seg [(7, [])] [(5, .bool x3)] H (noU_all rfl) (fun fr => by kernel_rfl) ?_
  intro fr H
  refine at_nil ?_
  show AW cfg 39 g (right (right (bodyC cfg.P 39))) fr h1 _
  refine aw_ret (by kernel_rfl) ?_
  obtain ⟨e1, e2⟩ := inj2 hm
  subst e2
  subst e1
  exact (done_ret H (fun fr => by kernel_rfl) rfl : doneQ cfg.P _ _ _ _ fr _)
/-! ### (*boulter/tree.asker).does$3 -/
noncomputable def B_tree_asker_does_3_s0 (S : SC_tree_asker_does_1_s0) (g : Gd) (h : AHeap) (p0 : Int) (p1 : Nat × Nat) (p2 : Nat × Nat) (p3 : Nat × Nat) : Option ((Bool) × AHeap) :=
 (ldF h (p1.1, p1.2) 37 (cap asA capN)).bind fun (a1, _) => (ldI h (p2.1, p2.2 + 2) .i64).bind fun x1 => (ldI h (p3.1, p3.2 + 3) .i64).bind fun x2 => (S.M_tree_asker_does_1_s0 g h x1 p0 x2 (a1.1, a1.2)).bind fun (x3, h1) => some (x3, h1)
theorem okB_tree_asker_does_3_s0 {S : SC_tree_asker_does_1_s0} (hS : OkSC_tree_asker_does_1_s0 S) {g : Gd} {h h' : AHeap} {p0 : Int} {p1 : Nat × Nat} {p2 : Nat × Nat} {p3 : Nat × Nat} {r0 : Bool} (hm : B_tree_asker_does_3_s0 S g h p0 p1 p2 p3 = some (r0, h')) : Runs cfg g h 40 [.int .i64 p0, .ptr (some (p1.1, p1.2)), .ptr (some (p2.1, p2.2)), .ptr (some (p3.1, p3.2))] (.bool r0) h' := by
  refine runs1 (by kernel_rfl) (body_of (n := 13) (rs := [.tmp 5]) (by kernel_rfl) ?_)
  unfold B_tree_asker_does_3_s0 at hm
  refine start (n := 13) [(0, .int .i64 p0), (1, .ptr (some (p1.1, p1.2))), (2, .ptr (some (p2.1, p2.2))), (3, .ptr (some (p3.1, p3.2)))] (by kernel_rfl) (by kernel_rfl) ?_
  intro fr H
  refine aw_seq (by kernel_rfl) ?_
  refine aw_reg (id := 0) (n := 1) [(0, [])] (by kernel_rfl) (by kernel_rfl) ?_
  refine at_seg [(0, [])] [(0, .int .i64 p0), (1, .ptr (some (p1.1, p1.2))), (2, .ptr (some (p2.1, p2.2))), (3, .ptr (some (p3.1, p3.2)))] H (noU_all rfl) (fun fr => by kernel_rfl) ?_
  intro fr H
  refine at_nil ?_
  show AW cfg 40 g (right (bodyC cfg.P 40)) fr h _
  refine aw_seq (by kernel_rfl) ?_
  refine aw_reg (id := 1) (n := 8) [(0, []), (1, []), (2, []), (3, []), (4, []), (5, []), (6, []), (7, [])] (by kernel_rfl) (by kernel_rfl) ?_
  obtain ⟨⟨a1, _⟩, hx, hm⟩ := bind_some hm
  obtain ⟨l0, hx, hc⟩ := ldF_eq hx
  obtain ⟨v1, l1, ec1, fc1, hc⟩ := cap_eq hc
  have fc1 := asA_eq fc1
  have ec0 := capN_eq hc
  subst ec0
  subst fc1
  subst ec1
  refine at_step (v := .func (.func 37) [] [.ptr (some a1)]) (h1 := h) [(0, .int .i64 p0), (2, .ptr (some (p2.1, p2.2))), (3, .ptr (some (p3.1, p3.2))), (6, .func (.func 37) [] [.ptr (some (a1.1, a1.2))])] H (fun fr => by kernel_rfl) (fun fr => .of (s_ld (by kernel_rfl) hx)) ?_
  intro fr t H
  refine at_seg [(1, [])] [(0, .int .i64 p0), (3, .ptr (some (p3.1, p3.2))), (6, .func (.func 37) [] [.ptr (some (a1.1, a1.2))]), (7, .ptr (some (p2.1, p2.2 + 2)))] H (noU_all rfl) (fun fr => by kernel_rfl) ?_
  intro fr H
  obtain ⟨x1, hx, hm⟩ := bind_some hm
  refine at_step (v := .int .i64 x1) (h1 := h) [(0, .int .i64 p0), (3, .ptr (some (p3.1, p3.2))), (6, .func (.func 37) [] [.ptr (some (a1.1, a1.2))]), (8, .int .i64 x1)] H (fun fr => by kernel_rfl) (fun fr => .of (s_ld (by kernel_rfl) (ldI_eq hx))) ?_
  intro fr t H
  refine at_seg [(3, []), (4, [])] [(6, .func (.func 37) [] [.ptr (some (a1.1, a1.2))]), (8, .int .i64 x1), (9, .int .i64 p0), (10, .ptr (some (p3.1, p3.2 + 3)))] H (noU_all rfl) (fun fr => by kernel_rfl) ?_
  intro fr H
  obtain ⟨x2, hx, hm⟩ := bind_some hm
  refine at_step (v := .int .i64 x2) (h1 := h) [(6, .func (.func 37) [] [.ptr (some (a1.1, a1.2))]), (8, .int .i64 x1), (9, .int .i64 p0), (11, .int .i64 x2)] H (fun fr => by kernel_rfl) (fun fr => .of (s_ld (by kernel_rfl) (ldI_eq hx))) ?_
  intro fr t H
  obtain ⟨⟨x3, h1⟩, hx, hm⟩ := bind_some hm
  refine at_step (v := .bool x3) (h1 := h1) [(12, .bool x3)] H (fun fr => by kernel_rfl) (fun fr => Steps.call (by kernel_rfl) (hS.ok_tree_asker_does_1_s0 hx)) ?_
  intro fr t H
  refine at_seg [(7, [])] [(5, .bool x3)] H (noU_all rfl) (fun fr => by kernel_rfl) ?_
  intro fr H
  refine at_nil ?_
  show AW cfg 40 g (right (right (bodyC cfg.P 40))) fr h1 _
  refine aw_ret (by kernel_rfl) ?_
  obtain ⟨e1, e2⟩ := inj2 hm
  subst e2
  subst e1
  exact (done_ret H (fun fr => by kernel_rfl) rfl : doneQ cfg.P _ _ _ _ fr _)
/-! ### (*boulter/tree.asker).repeats -/
noncomputable def M_tree_asker_repeats_L0 (S : SC_tree_asker_does_1_s0) (g : Gd) (h : AHeap) (p0 : Option (Nat × Nat)) (h1 : AHeap) (x9 : Int) (s : Int × AHeap) : Option ((Int × AHeap) ⊕ ((AHeap) ⊕ (Bool × AHeap))) :=
  match s with
  | (x15, h3) => (ldI h3 (h.size, 3) .i64).bind fun x16 => iteB (decide (x15 ≤ x16)) (((ldI h3 (h.size, 2) .i64).bind fun x18 => (iteB (x15 == x18) ((ldI h3 (h.size, 1) .i64).bind fun x20 => (ldI h3 (h1.size, 3) .i64).bind fun x21 => some (decide (x20 ≥ x21))) (some false) : Option (Bool)).bind fun x19 => iteB x19 (some (.inl h3)) ((ldI h3 (h1.size, 1) .i64).bind fun x22 => (ldI h3 (h.size, 2) .i64).bind fun x23 => (S.M_tree_asker_asks g h3 p0 [.int .i64 x22, .int .i64 (0 : Int), .int .i64 x23, .int .i64 x15]).bind fun (x24, h4) => (iteB x24 ((ldI h4 (h.size, 0) .i64).bind fun x26 => (ldI h4 (h.size, 3) .i64).bind fun x27 => (S.M_tree_asker_asks g h4 p0 [.int .i64 x26, .int .i64 x9, .int .i64 x15, .int .i64 x27]).bind fun (x28, h6) => some (x28, h6)) (some (false, h4)) : Option (Bool × AHeap)).bind fun (x25, h5) => iteB x25 (some (.inr (true, h5))) (some (.inl h5))) : Option ((AHeap) ⊕ (Bool × AHeap))).bind fun o3 => (match o3 with | .inl h7 => some (.inl (IntKind.i64.wrap (x15 + (1 : Int)), h7)) | .inr (x17, h7) => some (.inr (.inr (x17, h7))))) (some (.inr (.inl h3)))
noncomputable def B_tree_asker_repeats (S : SC_tree_asker_does_1_s0) (g : Gd) (h : AHeap) (p0 : Option (Nat × Nat)) (p1 : List AVal) (p2 : List AVal) : Option ((Bool) × AHeap) :=
 need (p1.all AVal.one) <| (some (h.push (.cells none 2 p1))).bind fun h1 => need (p2.all AVal.one) <| (some (h1.push (.cells none 2 p2))).bind fun h2 => (ldI h2 (h.size, 1) .i64).bind fun x1 => (ldI h2 (h1.size, 3) .i64).bind fun x2 => (iteB (decide (x1 ≥ x2)) ((ldI h2 (h.size, 2) .i64).bind fun x4 => (ldI h2 (h.size, 3) .i64).bind fun x5 => some (x4 == x5)) (some false) : Option (Bool)).bind fun x3 => iteB x3 (some (true, h2)) ((ldI h2 (h.size, 1) .i64).bind fun x6 => (ldI h2 (h1.size, 4) .i64).bind fun x7 => iteB (x6 == x7) (some (false, h2)) ((ldI h2 (h.size, 1) .i64).bind fun x8 => ((ldI h2 (h1.size, 4) .i64).bind fun x10 => iteB (decide (x10 < (0 : Int))) ((ldI h2 (h1.size, 3) .i64).bind fun x11 => some (mn (IntKind.i64.wrap (x8 + (1 : Int))) x11)) (some (IntKind.i64.wrap (x8 + (1 : Int)))) : Option ((Int))).bind fun x9 => (ldI h2 (h.size, 2) .i64).bind fun x12 => (loop (M_tree_asker_repeats_L0 S g h p0 h1 x9) (x12, h2)).bind fun o2 => (match o2 with | .inl h8 => some (false, h8) | .inr (x14, h8) => some (x14, h8))))
theorem okB_tree_asker_repeats {S : SC_tree_asker_does_1_s0} (hS : OkSC_tree_asker_does_1_s0 S) {g : Gd} {h h' : AHeap} {p0 : Option (Nat × Nat)} {p1 : List AVal} {p2 : List AVal} {r0 : Bool} (hm : B_tree_asker_repeats S g h p0 p1 p2 = some (r0, h')) : Runs cfg g h 41 [.ptr p0, .agg p1, .agg p2] (.bool r0) h' := by
  refine runs1 (by kernel_rfl) (body_of (n := 74) (rs := [.tmp 6]) (by kernel_rfl) ?_)
  unfold B_tree_asker_repeats at hm
  refine start (n := 74) [(0, .ptr p0), (1, .agg p1), (2, .agg p2)] (by kernel_rfl) (by kernel_rfl) ?_
  intro fr H
  refine aw_seq (by kernel_rfl) ?_
  refine aw_reg (id := 0) (n := 3) [(0, []), (1, []), (2, [])] (by kernel_rfl) (by kernel_rfl) ?_
  obtain ⟨hb, hm⟩ := need_some hm
  obtain ⟨h1, hx, hm⟩ := bind_some hm
  refine at_step (v := .ptr (some (h.size, 0))) (h1 := h1) [(0, .ptr p0), (2, .agg p2), (4, .ptr (some (h.size, 0)))] H (fun fr => by kernel_rfl) (fun fr => .of (s_boxG (by kernel_rfl) hb hx)) ?_
  intro fr t H
  obtain ⟨hb, hm⟩ := need_some hm
  obtain ⟨h2, hx, hm⟩ := bind_some hm
  refine at_step (v := .ptr (some (h1.size, 0))) (h1 := h2) [(0, .ptr p0), (4, .ptr (some (h.size, 0))), (5, .ptr (some (h1.size, 0)))] H (fun fr => by kernel_rfl) (fun fr => .of (s_boxG (by kernel_rfl) hb hx)) ?_
  intro fr t H
  refine at_seg [(2, [])] [(0, .ptr p0), (4, .ptr (some (h.size, 0))), (5, .ptr (some (h1.size, 0)))] H (noU_all rfl) (fun fr => by kernel_rfl) ?_
  intro fr H
  refine at_nil ?_
  show AW cfg 41 g (right (bodyC cfg.P 41)) fr h2 _
  refine aw_seq (by kernel_rfl) ?_
  refine aw_seq (by kernel_rfl) ?_
  refine aw_reg (id := 1) (n := 12) [(0, []), (1, []), (2, []), (3, []), (4, []), (5, []), (6, []), (7, []), (8, []), (9, []), (10, []), (11, [])] (by kernel_rfl) (by kernel_rfl) ?_
  refine at_seg [(0, [])] [(0, .ptr p0), (4, .ptr (some (h.size, 0))), (5, .ptr (some (h1.size, 0))), (9, .ptr (some (h.size, 1)))] H (noU_all rfl) (fun fr => by kernel_rfl) ?_
  intro fr H
  obtain ⟨x1, hx, hm⟩ := bind_some hm
  refine at_step (v := .int .i64 x1) (h1 := h2) [(0, .ptr p0), (4, .ptr (some (h.size, 0))), (5, .ptr (some (h1.size, 0))), (10, .int .i64 x1)] H (fun fr => by kernel_rfl) (fun fr => .of (s_ld (by kernel_rfl) (ldI_eq hx))) ?_
  intro fr t H
  refine at_seg [(2, [])] [(0, .ptr p0), (4, .ptr (some (h.size, 0))), (5, .ptr (some (h1.size, 0))), (10, .int .i64 x1), (11, .ptr (some (h1.size, 3)))] H (noU_all rfl) (fun fr => by kernel_rfl) ?_
  intro fr H
  obtain ⟨x2, hx, hm⟩ := bind_some hm
  refine at_step (v := .int .i64 x2) (h1 := h2) [(0, .ptr p0), (4, .ptr (some (h.size, 0))), (5, .ptr (some (h1.size, 0))), (10, .int .i64 x1), (12, .int .i64 x2)] H (fun fr => by kernel_rfl) (fun fr => .of (s_ld (by kernel_rfl) (ldI_eq hx))) ?_
  intro fr t H
  refine at_seg [(4, []), (5, [])] [(0, .ptr p0), (4, .ptr (some (h.size, 0))), (5, .ptr (some (h1.size, 0))), (14, .bool (decide (x1 ≥ x2)))] H (noU_all rfl) (fun fr => by kernel_rfl) ?_
  intro fr H
  obtain ⟨x3, ho, hm⟩ := bind_some hm
  refine at_cut [(6, []), (7, []), (8, []), (9, []), (10, []), (11, [])] (fun fr' h' => h2 = h' ∧ Has fr' 74 [(0, .ptr p0), (4, .ptr (some (h.size, 0))), (5, .ptr (some (h1.size, 0))), (20, .bool x3)]) ?_ ?_
  · rcases iteB_some ho with ⟨hb, hm⟩ | ⟨hb, hm⟩
    · replace H := H.know 14 hb (by kernel_rfl)
      refine at_seg [(6, [])] [(0, .ptr p0), (4, .ptr (some (h.size, 0))), (5, .ptr (some (h1.size, 0))), (14, .bool true), (15, .ptr (some (h.size, 2)))] H (noU_all rfl) (fun fr => by kernel_rfl) ?_
      intro fr H
      obtain ⟨x4, hx, hm⟩ := bind_some hm
      refine at_step (v := .int .i64 x4) (h1 := h2) [(0, .ptr p0), (4, .ptr (some (h.size, 0))), (5, .ptr (some (h1.size, 0))), (14, .bool true), (16, .int .i64 x4)] H (fun fr => by kernel_rfl) (fun fr => .of (s_ld (by kernel_rfl) (ldI_eq hx))) ?_
      intro fr t H
      refine at_seg [(8, [])] [(0, .ptr p0), (4, .ptr (some (h.size, 0))), (5, .ptr (some (h1.size, 0))), (14, .bool true), (16, .int .i64 x4), (17, .ptr (some (h.size, 3)))] H (noU_all rfl) (fun fr => by kernel_rfl) ?_
      intro fr H
      obtain ⟨x5, hx, hm⟩ := bind_some hm
      refine at_step (v := .int .i64 x5) (h1 := h2) [(0, .ptr p0), (4, .ptr (some (h.size, 0))), (5, .ptr (some (h1.size, 0))), (14, .bool true), (16, .int .i64 x4), (18, .int .i64 x5)] H (fun fr => by kernel_rfl) (fun fr => .of (s_ld (by kernel_rfl) (ldI_eq hx))) ?_
      intro fr t H
      refine at_seg [(10, []), (11, [])] [(0, .ptr p0), (4, .ptr (some (h.size, 0))), (5, .ptr (some (h1.size, 0))), (20, .bool (x4 == x5))] H (noU_all rfl) (fun fr => by kernel_rfl) ?_
      intro fr H
      have e1 := Option.some.inj hm
      subst e1
      exact at_nil ⟨rfl, H.less _ (fun fr => by kernel_rfl)⟩
    · replace H := H.know 14 hb (by kernel_rfl)
      refine at_seg [(6, []), (7, []), (8, []), (9, []), (10, []), (11, [])] [(0, .ptr p0), (4, .ptr (some (h.size, 0))), (5, .ptr (some (h1.size, 0))), (20, .bool false)] H (noU_all rfl) (fun fr => by kernel_rfl) ?_
      intro fr H
      have e1 := Option.some.inj hm
      subst e1
      exact at_nil ⟨rfl, H.less _ (fun fr => by kernel_rfl)⟩
  · intro t fr h' hK
    obtain ⟨e, H⟩ := hK
    subst e
    refine at_nil ?_
    show AW cfg 41 g (right (left (right (bodyC cfg.P 41)))) fr h2 _
    rcases iteB_some hm with ⟨hb, hm⟩ | ⟨hb, hm⟩
    · replace H := H.know 20 hb (by kernel_rfl)
      refine aw_true (x := .tmp 20) (by kernel_rfl) H (fun fr => by kernel_rfl) ?_
      refine aw_seq (by kernel_rfl) ?_
      refine aw_reg (id := 2) (n := 1) [(0, [])] (by kernel_rfl) (by kernel_rfl) ?_
      refine at_seg [(0, [])] [(6, .bool true)] H (noU_all rfl) (fun fr => by kernel_rfl) ?_
      intro fr H
      refine at_nil ?_
      show AW cfg 41 g (right (left (right (left (right (bodyC cfg.P 41)))))) fr h2 _
      refine aw_ret (by kernel_rfl) ?_
      obtain ⟨e1, e2⟩ := inj2 hm
      subst e2
      subst e1
      exact (done_ret H (fun fr => by kernel_rfl) rfl : doneQ cfg.P _ _ _ _ fr _)
    · replace H := H.know 20 hb (by kernel_rfl)
      refine aw_false (x := .tmp 20) (by kernel_rfl) H (fun fr => by kernel_rfl) ?_
      refine aw_skip (by kernel_rfl) ?_
      show AW cfg 41 g (right (right (bodyC cfg.P 41))) fr h2 _
      refine aw_seq (by kernel_rfl) ?_
      refine aw_seq (by kernel_rfl) ?_
      refine aw_reg (id := 3) (n := 5) [(0, []), (1, []), (2, []), (3, []), (4, [])] (by kernel_rfl) (by kernel_rfl) ?_
      refine at_seg [(0, [])] [(0, .ptr p0), (4, .ptr (some (h.size, 0))), (5, .ptr (some (h1.size, 0))), (21, .ptr (some (h.size, 1)))] H (noU_all rfl) (fun fr => by kernel_rfl) ?_
      intro fr H
      obtain ⟨x6, hx, hm⟩ := bind_some hm
      refine at_step (v := .int .i64 x6) (h1 := h2) [(0, .ptr p0), (4, .ptr (some (h.size, 0))), (5, .ptr (some (h1.size, 0))), (22, .int .i64 x6)] H (fun fr => by kernel_rfl) (fun fr => .of (s_ld (by kernel_rfl) (ldI_eq hx))) ?_
      intro fr t H
      refine at_seg [(2, [])] [(0, .ptr p0), (4, .ptr (some (h.size, 0))), (5, .ptr (some (h1.size, 0))), (22, .int .i64 x6), (23, .ptr (some (h1.size, 4)))] H (noU_all rfl) (fun fr => by kernel_rfl) ?_
      intro fr H
      obtain ⟨x7, hx, hm⟩ := bind_some hm
      refine at_step (v := .int .i64 x7) (h1 := h2) [(0, .ptr p0), (4, .ptr (some (h.size, 0))), (5, .ptr (some (h1.size, 0))), (22, .int .i64 x6), (24, .int .i64 x7)] H (fun fr => by kernel_rfl) (fun fr => .of (s_ld (by kernel_rfl) (ldI_eq hx))) ?_
      intro fr t H
      refine at_seg [(4, [])] [(0, .ptr p0), (4, .ptr (some (h.size, 0))), (5, .ptr (some (h1.size, 0))), (25, .bool (x6 == x7))] H (noU_all rfl) (fun fr => by kernel_rfl) ?_
      intro fr H
      refine at_nil ?_
      show AW cfg 41 g (right (left (right (right (bodyC cfg.P 41))))) fr h2 _
      rcases iteB_some hm with ⟨hb, hm⟩ | ⟨hb, hm⟩
      · replace H := H.know 25 hb (by kernel_rfl)
        refine aw_true (x := .tmp 25) (by kernel_rfl) H (fun fr => by kernel_rfl) ?_
        refine aw_seq (by kernel_rfl) ?_
        refine aw_reg (id := 4) (n := 1) [(0, [])] (by kernel_rfl) (by kernel_rfl) ?_
        refine at_seg [(0, [])] [(6, .bool false)] H (noU_all rfl) (fun fr => by kernel_rfl) ?_
        intro fr H
        refine at_nil ?_
        show AW cfg 41 g (right (left (right (left (right (right (bodyC cfg.P 41))))))) fr h2 _
        refine aw_ret (by kernel_rfl) ?_
        obtain ⟨e1, e2⟩ := inj2 hm
        subst e2
        subst e1
        exact (done_ret H (fun fr => by kernel_rfl) rfl : doneQ cfg.P _ _ _ _ fr _)
      · replace H := H.know 25 hb (by kernel_rfl)
        refine aw_false (x := .tmp 25) (by kernel_rfl) H (fun fr => by kernel_rfl) ?_
        refine aw_skip (by kernel_rfl) ?_
        show AW cfg 41 g (right (right (right (bodyC cfg.P 41)))) fr h2 _
        refine aw_seq (by kernel_rfl) ?_
        refine aw_reg (id := 5) (n := 4) [(0, []), (1, []), (2, []), (3, [])] (by kernel_rfl) (by kernel_rfl) ?_
        refine at_seg [(0, [])] [(0, .ptr p0), (4, .ptr (some (h.size, 0))), (5, .ptr (some (h1.size, 0))), (26, .ptr (some (h.size, 1)))] H (noU_all rfl) (fun fr => by kernel_rfl) ?_
        intro fr H
        obtain ⟨x8, hx, hm⟩ := bind_some hm
        refine at_step (v := .int .i64 x8) (h1 := h2) [(0, .ptr p0), (4, .ptr (some (h.size, 0))), (5, .ptr (some (h1.size, 0))), (27, .int .i64 x8)] H (fun fr => by kernel_rfl) (fun fr => .of (s_ld (by kernel_rfl) (ldI_eq hx))) ?_
        intro fr t H
        refine at_seg [(2, []), (3, [])] [(0, .ptr p0), (4, .ptr (some (h.size, 0))), (5, .ptr (some (h1.size, 0))), (7, .int .i64 (IntKind.i64.wrap (x8 + (1 : Int))))] H (noU_all rfl) (fun fr => by kernel_rfl) ?_
        intro fr H
        refine at_nil ?_
        show AW cfg 41 g (right (right (right (right (bodyC cfg.P 41))))) fr h2 _
        refine aw_seq (by kernel_rfl) ?_
        obtain ⟨o1, ho, hm⟩ := bind_some hm
        refine aw_mono (Q' := fun e fr' h' => (∃ (x9 : Int), e = .normal ∧ x9 = o1 ∧ h2 = h' ∧ Has fr' 74 [(0, .ptr p0), (4, .ptr (some (h.size, 0))), (5, .ptr (some (h1.size, 0))), (7, .int .i64 x9)]) ∨ False) ?_ ?_
        · replace hm := ho
          clear ho
          refine aw_seq (by kernel_rfl) ?_
          refine aw_reg (id := 6) (n := 3) [(0, []), (1, []), (2, [])] (by kernel_rfl) (by kernel_rfl) ?_
          refine at_seg [(0, [])] [(0, .ptr p0), (4, .ptr (some (h.size, 0))), (5, .ptr (some (h1.size, 0))), (7, .int .i64 (IntKind.i64.wrap (x8 + (1 : Int)))), (29, .ptr (some (h1.size, 4)))] H (noU_all rfl) (fun fr => by kernel_rfl) ?_
          intro fr H
          obtain ⟨x10, hx, hm⟩ := bind_some hm
          refine at_step (v := .int .i64 x10) (h1 := h2) [(0, .ptr p0), (4, .ptr (some (h.size, 0))), (5, .ptr (some (h1.size, 0))), (7, .int .i64 (IntKind.i64.wrap (x8 + (1 : Int)))), (30, .int .i64 x10)] H (fun fr => by kernel_rfl) (fun fr => .of (s_ld (by kernel_rfl) (ldI_eq hx))) ?_
          intro fr t H
          refine at_seg [(2, [])] [(0, .ptr p0), (4, .ptr (some (h.size, 0))), (5, .ptr (some (h1.size, 0))), (7, .int .i64 (IntKind.i64.wrap (x8 + (1 : Int)))), (31, .bool (decide (x10 < (0 : Int))))] H (noU_all rfl) (fun fr => by kernel_rfl) ?_
          intro fr H
          refine at_nil ?_
          show AW cfg 41 g (right (left (right (right (right (right (bodyC cfg.P 41))))))) fr h2 _
          rcases iteB_some hm with ⟨hb, hm⟩ | ⟨hb, hm⟩
          · replace H := H.know 31 hb (by kernel_rfl)
            refine aw_true (x := .tmp 31) (by kernel_rfl) H (fun fr => by kernel_rfl) ?_
            refine aw_reg (id := 7) (n := 5) [(0, []), (1, []), (2, []), (3, []), (4, [])] (by kernel_rfl) (by kernel_rfl) ?_
            refine at_seg [(0, []), (1, [])] [(0, .ptr p0), (4, .ptr (some (h.size, 0))), (5, .ptr (some (h1.size, 0))), (32, .int .i64 (IntKind.i64.wrap (x8 + (1 : Int)))), (33, .ptr (some (h1.size, 3)))] H (noU_all rfl) (fun fr => by kernel_rfl) ?_
            intro fr H
            obtain ⟨x11, hx, hm⟩ := bind_some hm
            refine at_step (v := .int .i64 x11) (h1 := h2) [(0, .ptr p0), (4, .ptr (some (h.size, 0))), (5, .ptr (some (h1.size, 0))), (32, .int .i64 (IntKind.i64.wrap (x8 + (1 : Int)))), (34, .int .i64 x11)] H (fun fr => by kernel_rfl) (fun fr => .of (s_ld (by kernel_rfl) (ldI_eq hx))) ?_
            intro fr t H
            refine at_seg [(3, []), (4, [])] [(0, .ptr p0), (4, .ptr (some (h.size, 0))), (5, .ptr (some (h1.size, 0))), (7, .int .i64 (mn (IntKind.i64.wrap (x8 + (1 : Int))) x11))] H (noU_all rfl) (fun fr => by kernel_rfl) ?_
            intro fr H
            refine at_nil ?_
            exact Or.inl ⟨mn (IntKind.i64.wrap (x8 + (1 : Int))) x11, rfl, Option.some.inj hm, rfl, H.less _ (fun fr => by kernel_rfl)⟩
          · replace H := H.know 31 hb (by kernel_rfl)
            refine aw_false (x := .tmp 31) (by kernel_rfl) H (fun fr => by kernel_rfl) ?_
            refine aw_skip (by kernel_rfl) ?_
            exact Or.inl ⟨IntKind.i64.wrap (x8 + (1 : Int)), rfl, Option.some.inj hm, rfl, H.less _ (fun fr => by kernel_rfl)⟩
        · clear ho
          intro e fr hz hQ
          rcases hQ with ⟨x9, rfl, rfl, rfl, H⟩ | hF
          · skip
            show AW cfg 41 g (right (right (right (right (right (bodyC cfg.P 41)))))) fr h2 _
            refine aw_seq (by kernel_rfl) ?_
            refine aw_seq (by kernel_rfl) ?_
            refine aw_reg (id := 8) (n := 3) [(0, []), (1, []), (2, [])] (by kernel_rfl) (by kernel_rfl) ?_
            refine at_seg [(0, [])] [(0, .ptr p0), (4, .ptr (some (h.size, 0))), (5, .ptr (some (h1.size, 0))), (7, .int .i64 x9), (36, .ptr (some (h.size, 2)))] H (noU_all rfl) (fun fr => by kernel_rfl) ?_
            intro fr H
            obtain ⟨x12, hx, hm⟩ := bind_some hm
            refine at_step (v := .int .i64 x12) (h1 := h2) [(0, .ptr p0), (4, .ptr (some (h.size, 0))), (5, .ptr (some (h1.size, 0))), (7, .int .i64 x9), (37, .int .i64 x12)] H (fun fr => by kernel_rfl) (fun fr => .of (s_ld (by kernel_rfl) (ldI_eq hx))) ?_
            intro fr t H
            refine at_seg [(2, [])] [(0, .ptr p0), (4, .ptr (some (h.size, 0))), (5, .ptr (some (h1.size, 0))), (7, .int .i64 x9), (8, .int .i64 x12)] H (noU_all rfl) (fun fr => by kernel_rfl) ?_
            intro fr H
            refine at_nil ?_
            show AW cfg 41 g (right (left (right (right (right (right (right (bodyC cfg.P 41)))))))) fr h2 _
            refine aw_block (id := 0) (by kernel_rfl) ?_
            obtain ⟨o2, ho, hm⟩ := bind_some hm
            refine aw_mono (Q' := fun e fr' h' => (e = .exit 0 ∧ .inl h' = o2 ∧ h' = h' ∧ Has fr' 74 []) ∨ (∃ (x14 : Bool), e = .ret ∧ .inr (x14, h') = o2 ∧ h' = h' ∧ Has fr' 74 [(6, .bool x14)]) ∨ False) ?_ ?_
            · refine aw_loop (by kernel_rfl) (fun (s : Int × AHeap) fr' h' => ∃ (x15 : Int), (x15, h') = s ∧ h' = h' ∧ Has fr' 74 [(0, .ptr p0), (4, .ptr (some (h.size, 0))), (5, .ptr (some (h1.size, 0))), (7, .int .i64 x9), (8, .int .i64 x15)]) ho ⟨x12, rfl, rfl, H.less _ (fun fr => by kernel_rfl)⟩ ?_
              clear ho hm H
              intro s q fr h3 hI hm
              obtain ⟨x15, rfl, _, H⟩ := hI
              unfold M_tree_asker_repeats_L0 at hm
              refine aw_seq (by kernel_rfl) ?_
              refine aw_seq (by kernel_rfl) ?_
              refine aw_reg (id := 9) (n := 4) [(0, []), (1, []), (2, []), (3, [])] (by kernel_rfl) (by kernel_rfl) ?_
              refine at_seg [(0, []), (1, [])] [(0, .ptr p0), (4, .ptr (some (h.size, 0))), (5, .ptr (some (h1.size, 0))), (7, .int .i64 x9), (8, .int .i64 x15), (38, .int .i64 x15), (39, .ptr (some (h.size, 3)))] H (noU_all rfl) (fun fr => by kernel_rfl) ?_
              intro fr H
              obtain ⟨x16, hx, hm⟩ := bind_some hm
              refine at_step (v := .int .i64 x16) (h1 := h3) [(0, .ptr p0), (4, .ptr (some (h.size, 0))), (5, .ptr (some (h1.size, 0))), (7, .int .i64 x9), (8, .int .i64 x15), (38, .int .i64 x15), (40, .int .i64 x16)] H (fun fr => by kernel_rfl) (fun fr => .of (s_ld (by kernel_rfl) (ldI_eq hx))) ?_
              intro fr t H
              refine at_seg [(3, [])] [(0, .ptr p0), (4, .ptr (some (h.size, 0))), (5, .ptr (some (h1.size, 0))), (7, .int .i64 x9), (8, .int .i64 x15), (41, .bool (decide (x15 ≤ x16)))] H (noU_all rfl) (fun fr => by kernel_rfl) ?_
              intro fr H
              refine at_nil ?_
              show AW cfg 41 g (right (left (left (left (right (left (right (right (right (right (right (bodyC cfg.P 41)))))))))))) fr h3 _
              rcases iteB_some hm with ⟨hb, hm⟩ | ⟨hb, hm⟩
              · replace H := H.know 41 hb (by kernel_rfl)
                refine aw_true (x := .tmp 41) (by kernel_rfl) H (fun fr => by kernel_rfl) ?_
                refine aw_skip (by kernel_rfl) ?_
                show AW cfg 41 g (right (left (left (right (left (right (right (right (right (right (bodyC cfg.P 41))))))))))) fr h3 _
                refine aw_seq (by kernel_rfl) ?_
                obtain ⟨o3, ho, hm⟩ := bind_some hm
                refine aw_mono (Q' := fun e fr' h' => (e = .normal ∧ .inl h' = o3 ∧ h' = h' ∧ Has fr' 74 [(0, .ptr p0), (4, .ptr (some (h.size, 0))), (5, .ptr (some (h1.size, 0))), (7, .int .i64 x9), (8, .int .i64 x15)]) ∨ (∃ (x17 : Bool), e = .ret ∧ .inr (x17, h') = o3 ∧ h' = h' ∧ Has fr' 74 [(6, .bool x17)]) ∨ False) ?_ ?_
                · replace hm := ho
                  clear ho
                  refine aw_block (id := 1) (by kernel_rfl) ?_
                  refine aw_seq (by kernel_rfl) ?_
                  refine aw_seq (by kernel_rfl) ?_
                  refine aw_reg (id := 11) (n := 11) [(0, []), (1, []), (2, []), (3, []), (4, []), (5, []), (6, []), (7, []), (8, []), (9, []), (10, [])] (by kernel_rfl) (by kernel_rfl) ?_
                  refine at_seg [(0, []), (1, [])] [(0, .ptr p0), (4, .ptr (some (h.size, 0))), (5, .ptr (some (h1.size, 0))), (7, .int .i64 x9), (8, .int .i64 x15), (44, .int .i64 x15), (45, .ptr (some (h.size, 2)))] H (noU_all rfl) (fun fr => by kernel_rfl) ?_
                  intro fr H
                  obtain ⟨x18, hx, hm⟩ := bind_some hm
                  refine at_step (v := .int .i64 x18) (h1 := h3) [(0, .ptr p0), (4, .ptr (some (h.size, 0))), (5, .ptr (some (h1.size, 0))), (7, .int .i64 x9), (8, .int .i64 x15), (44, .int .i64 x15), (46, .int .i64 x18)] H (fun fr => by kernel_rfl) (fun fr => .of (s_ld (by kernel_rfl) (ldI_eq hx))) ?_
                  intro fr t H
                  refine at_seg [(3, []), (4, [])] [(0, .ptr p0), (4, .ptr (some (h.size, 0))), (5, .ptr (some (h1.size, 0))), (7, .int .i64 x9), (8, .int .i64 x15), (48, .bool (x15 == x18))] H (noU_all rfl) (fun fr => by kernel_rfl) ?_
                  intro fr H
                  obtain ⟨x19, ho, hm⟩ := bind_some hm
                  refine at_cut [(5, []), (6, []), (7, []), (8, []), (9, []), (10, [])] (fun fr' h' => h3 = h' ∧ Has fr' 74 [(0, .ptr p0), (4, .ptr (some (h.size, 0))), (5, .ptr (some (h1.size, 0))), (7, .int .i64 x9), (8, .int .i64 x15), (54, .bool x19)]) ?_ ?_
                  · rcases iteB_some ho with ⟨hb, hm⟩ | ⟨hb, hm⟩
                    · replace H := H.know 48 hb (by kernel_rfl)
                      refine at_seg [(5, [])] [(0, .ptr p0), (4, .ptr (some (h.size, 0))), (5, .ptr (some (h1.size, 0))), (7, .int .i64 x9), (8, .int .i64 x15), (48, .bool true), (49, .ptr (some (h.size, 1)))] H (noU_all rfl) (fun fr => by kernel_rfl) ?_
                      intro fr H
                      obtain ⟨x20, hx, hm⟩ := bind_some hm
                      refine at_step (v := .int .i64 x20) (h1 := h3) [(0, .ptr p0), (4, .ptr (some (h.size, 0))), (5, .ptr (some (h1.size, 0))), (7, .int .i64 x9), (8, .int .i64 x15), (48, .bool true), (50, .int .i64 x20)] H (fun fr => by kernel_rfl) (fun fr => .of (s_ld (by kernel_rfl) (ldI_eq hx))) ?_
                      intro fr t H
                      refine at_seg [(7, [])] [(0, .ptr p0), (4, .ptr (some (h.size, 0))), (5, .ptr (some (h1.size, 0))), (7, .int .i64 x9), (8, .int .i64 x15), (48, .bool true), (50, .int .i64 x20), (51, .ptr (some (h1.size, 3)))] H (noU_all rfl) (fun fr => by kernel_rfl) ?_
                      intro fr H
                      obtain ⟨x21, hx, hm⟩ := bind_some hm
                      refine at_step (v := .int .i64 x21) (h1 := h3) [(0, .ptr p0), (4, .ptr (some (h.size, 0))), (5, .ptr (some (h1.size, 0))), (7, .int .i64 x9), (8, .int .i64 x15), (48, .bool true), (50, .int .i64 x20), (52, .int .i64 x21)] H (fun fr => by kernel_rfl) (fun fr => .of (s_ld (by kernel_rfl) (ldI_eq hx))) ?_
                      intro fr t H
                      refine at_seg [(9, []), (10, [])] [(0, .ptr p0), (4, .ptr (some (h.size, 0))), (5, .ptr (some (h1.size, 0))), (7, .int .i64 x9), (8, .int .i64 x15), (54, .bool (decide (x20 ≥ x21)))] H (noU_all rfl) (fun fr => by kernel_rfl) ?_
                      intro fr H
                      have e1 := Option.some.inj hm
                      subst e1
                      exact at_nil ⟨rfl, H.less _ (fun fr => by kernel_rfl)⟩
                    · replace H := H.know 48 hb (by kernel_rfl)
                      refine at_seg [(5, []), (6, []), (7, []), (8, []), (9, []), (10, [])] [(0, .ptr p0), (4, .ptr (some (h.size, 0))), (5, .ptr (some (h1.size, 0))), (7, .int .i64 x9), (8, .int .i64 x15), (54, .bool false)] H (noU_all rfl) (fun fr => by kernel_rfl) ?_
                      intro fr H
                      have e1 := Option.some.inj hm
                      subst e1
                      exact at_nil ⟨rfl, H.less _ (fun fr => by kernel_rfl)⟩
                  · intro t fr h' hK
                    obtain ⟨e, H⟩ := hK
                    subst e
                    refine at_nil ?_
                    show AW cfg 41 g (right (left (left (left (right (left (left (right (left (right (right (right (right (right (bodyC cfg.P 41))))))))))))))) fr h3 _
                    rcases iteB_some hm with ⟨hb, hm⟩ | ⟨hb, hm⟩
                    · replace H := H.know 54 hb (by kernel_rfl)
                      refine aw_true (x := .tmp 54) (by kernel_rfl) H (fun fr => by kernel_rfl) ?_
                      refine aw_exit (i := 1) (by kernel_rfl) ?_
                      exact Or.inl ⟨rfl, Option.some.inj hm, rfl, H.less _ (fun fr => by kernel_rfl)⟩
                    · replace H := H.know 54 hb (by kernel_rfl)
                      refine aw_false (x := .tmp 54) (by kernel_rfl) H (fun fr => by kernel_rfl) ?_
                      refine aw_skip (by kernel_rfl) ?_
                      show AW cfg 41 g (right (left (left (right (left (left (right (left (right (right (right (right (right (bodyC cfg.P 41)))))))))))))) fr h3 _
                      refine aw_seq (by kernel_rfl) ?_
                      refine aw_reg (id := 12) (n := 19) [(0, []), (1, []), (2, []), (3, []), (4, []), (5, []), (6, []), (7, []), (8, []), (9, []), (10, []), (11, []), (12, []), (13, []), (14, []), (15, []), (16, []), (17, []), (18, [])] (by kernel_rfl) (by kernel_rfl) ?_
                      refine at_seg [(0, []), (1, [])] [(0, .ptr p0), (4, .ptr (some (h.size, 0))), (5, .ptr (some (h1.size, 0))), (7, .int .i64 x9), (8, .int .i64 x15), (55, .ptr p0), (56, .ptr (some (h1.size, 1)))] H (noU_all rfl) (fun fr => by kernel_rfl) ?_
                      intro fr H
                      obtain ⟨x22, hx, hm⟩ := bind_some hm
                      refine at_step (v := .int .i64 x22) (h1 := h3) [(0, .ptr p0), (4, .ptr (some (h.size, 0))), (5, .ptr (some (h1.size, 0))), (7, .int .i64 x9), (8, .int .i64 x15), (55, .ptr p0), (57, .int .i64 x22)] H (fun fr => by kernel_rfl) (fun fr => .of (s_ld (by kernel_rfl) (ldI_eq hx))) ?_
                      intro fr t H
                      refine at_seg [(3, [])] [(0, .ptr p0), (4, .ptr (some (h.size, 0))), (5, .ptr (some (h1.size, 0))), (7, .int .i64 x9), (8, .int .i64 x15), (55, .ptr p0), (57, .int .i64 x22), (58, .ptr (some (h.size, 2)))] H (noU_all rfl) (fun fr => by kernel_rfl) ?_
                      intro fr H
                      obtain ⟨x23, hx, hm⟩ := bind_some hm
                      refine at_step (v := .int .i64 x23) (h1 := h3) [(0, .ptr p0), (4, .ptr (some (h.size, 0))), (5, .ptr (some (h1.size, 0))), (7, .int .i64 x9), (8, .int .i64 x15), (55, .ptr p0), (57, .int .i64 x22), (59, .int .i64 x23)] H (fun fr => by kernel_rfl) (fun fr => .of (s_ld (by kernel_rfl) (ldI_eq hx))) ?_
                      intro fr t H
                      refine at_seg [(5, []), (6, [])] [(0, .ptr p0), (4, .ptr (some (h.size, 0))), (5, .ptr (some (h1.size, 0))), (7, .int .i64 x9), (8, .int .i64 x15), (55, .ptr p0), (61, .agg [.int .i64 x22, .int .i64 (0 : Int), .int .i64 x23, .int .i64 x15])] H (noU_all rfl) (fun fr => by kernel_rfl) ?_
                      intro fr H
                      obtain ⟨⟨x24, h4⟩, hx, hm⟩ := bind_some hm
                      refine at_step (v := .bool x24) (h1 := h4) [(0, .ptr p0), (4, .ptr (some (h.size, 0))), (5, .ptr (some (h1.size, 0))), (7, .int .i64 x9), (8, .int .i64 x15), (62, .bool x24)] H (fun fr => by kernel_rfl) (fun fr => Steps.call (by kernel_rfl) (hS.ok_tree_asker_asks hx)) ?_
                      intro fr t H
                      refine at_seg [(8, [])] [(0, .ptr p0), (4, .ptr (some (h.size, 0))), (5, .ptr (some (h1.size, 0))), (7, .int .i64 x9), (8, .int .i64 x15), (63, .bool x24)] H (noU_all rfl) (fun fr => by kernel_rfl) ?_
                      intro fr H
                      obtain ⟨⟨x25, h5⟩, ho, hm⟩ := bind_some hm
                      refine at_cut [(9, []), (10, []), (11, []), (12, []), (13, []), (14, []), (15, []), (16, []), (17, []), (18, [])] (fun fr' h' => h5 = h' ∧ Has fr' 74 [(0, .ptr p0), (4, .ptr (some (h.size, 0))), (5, .ptr (some (h1.size, 0))), (7, .int .i64 x9), (8, .int .i64 x15), (73, .bool x25)]) ?_ ?_
                      · rcases iteB_some ho with ⟨hb, hm⟩ | ⟨hb, hm⟩
                        · replace H := H.know 63 hb (by kernel_rfl)
                          refine at_seg [(9, []), (10, [])] [(0, .ptr p0), (4, .ptr (some (h.size, 0))), (5, .ptr (some (h1.size, 0))), (7, .int .i64 x9), (8, .int .i64 x15), (63, .bool true), (64, .ptr p0), (65, .ptr (some (h.size, 0)))] H (noU_all rfl) (fun fr => by kernel_rfl) ?_
                          intro fr H
                          obtain ⟨x26, hx, hm⟩ := bind_some hm
                          refine at_step (v := .int .i64 x26) (h1 := h4) [(0, .ptr p0), (4, .ptr (some (h.size, 0))), (5, .ptr (some (h1.size, 0))), (7, .int .i64 x9), (8, .int .i64 x15), (63, .bool true), (64, .ptr p0), (66, .int .i64 x26)] H (fun fr => by kernel_rfl) (fun fr => .of (s_ld (by kernel_rfl) (ldI_eq hx))) ?_
                          intro fr t H
                          refine at_seg [(12, []), (13, []), (14, [])] [(0, .ptr p0), (4, .ptr (some (h.size, 0))), (5, .ptr (some (h1.size, 0))), (7, .int .i64 x9), (8, .int .i64 x15), (63, .bool true), (64, .ptr p0), (66, .int .i64 x26), (67, .int .i64 x9), (68, .int .i64 x15), (69, .ptr (some (h.size, 3)))] H (noU_all rfl) (fun fr => by kernel_rfl) ?_
                          intro fr H
                          obtain ⟨x27, hx, hm⟩ := bind_some hm
                          refine at_step (v := .int .i64 x27) (h1 := h4) [(0, .ptr p0), (4, .ptr (some (h.size, 0))), (5, .ptr (some (h1.size, 0))), (7, .int .i64 x9), (8, .int .i64 x15), (63, .bool true), (64, .ptr p0), (66, .int .i64 x26), (67, .int .i64 x9), (68, .int .i64 x15), (70, .int .i64 x27)] H (fun fr => by kernel_rfl) (fun fr => .of (s_ld (by kernel_rfl) (ldI_eq hx))) ?_
                          intro fr t H
                          refine at_seg [(16, [])] [(0, .ptr p0), (4, .ptr (some (h.size, 0))), (5, .ptr (some (h1.size, 0))), (7, .int .i64 x9), (8, .int .i64 x15), (63, .bool true), (64, .ptr p0), (71, .agg [.int .i64 x26, .int .i64 x9, .int .i64 x15, .int .i64 x27])] H (noU_all rfl) (fun fr => by kernel_rfl) ?_
                          intro fr H
                          obtain ⟨⟨x28, h6⟩, hx, hm⟩ := bind_some hm
                          refine at_step (v := .bool x28) (h1 := h6) [(0, .ptr p0), (4, .ptr (some (h.size, 0))), (5, .ptr (some (h1.size, 0))), (7, .int .i64 x9), (8, .int .i64 x15), (63, .bool true), (72, .bool x28)] H (fun fr => by kernel_rfl) (fun fr => Steps.call (by kernel_rfl) (hS.ok_tree_asker_asks hx)) ?_
                          intro fr t H
                          refine at_seg [(18, [])] [(0, .ptr p0), (4, .ptr (some (h.size, 0))), (5, .ptr (some (h1.size, 0))), (7, .int .i64 x9), (8, .int .i64 x15), (73, .bool x28)] H (noU_all rfl) (fun fr => by kernel_rfl) ?_
                          intro fr H
                          have e0 := Option.some.inj hm
                          obtain ⟨e1, f1⟩ := Prod.mk.inj e0
                          subst e1
                          subst f1
                          exact at_nil ⟨rfl, H.less _ (fun fr => by kernel_rfl)⟩
                        · replace H := H.know 63 hb (by kernel_rfl)
                          refine at_seg [(9, []), (10, []), (11, []), (12, []), (13, []), (14, []), (15, []), (16, []), (17, []), (18, [])] [(0, .ptr p0), (4, .ptr (some (h.size, 0))), (5, .ptr (some (h1.size, 0))), (7, .int .i64 x9), (8, .int .i64 x15), (73, .bool false)] H (noU_all rfl) (fun fr => by kernel_rfl) ?_
                          intro fr H
                          have e0 := Option.some.inj hm
                          obtain ⟨e1, f1⟩ := Prod.mk.inj e0
                          subst e1
                          subst f1
                          exact at_nil ⟨rfl, H.less _ (fun fr => by kernel_rfl)⟩
                      · intro t fr h' hK
                        obtain ⟨e, H⟩ := hK
                        subst e
                        refine at_nil ?_
                        show AW cfg 41 g (right (right (left (left (right (left (left (right (left (right (right (right (right (right (bodyC cfg.P 41))))))))))))))) fr h5 _
                        rcases iteB_some hm with ⟨hb, hm⟩ | ⟨hb, hm⟩
                        · replace H := H.know 73 hb (by kernel_rfl)
                          refine aw_true (x := .tmp 73) (by kernel_rfl) H (fun fr => by kernel_rfl) ?_
                          refine aw_seq (by kernel_rfl) ?_
                          refine aw_reg (id := 13) (n := 1) [(0, [])] (by kernel_rfl) (by kernel_rfl) ?_
                          refine at_seg [(0, [])] [(6, .bool true)] H (noU_all rfl) (fun fr => by kernel_rfl) ?_
                          intro fr H
                          refine at_nil ?_
                          show AW cfg 41 g (right (left (right (right (left (left (right (left (left (right (left (right (right (right (right (right (bodyC cfg.P 41))))))))))))))))) fr h5 _
                          refine aw_ret (by kernel_rfl) ?_
                          exact Or.inr (Or.inl ⟨true, rfl, Option.some.inj hm, rfl, H.less _ (fun fr => by kernel_rfl)⟩)
                        · replace H := H.know 73 hb (by kernel_rfl)
                          refine aw_false (x := .tmp 73) (by kernel_rfl) H (fun fr => by kernel_rfl) ?_
                          refine aw_skip (by kernel_rfl) ?_
                          exact Or.inl ⟨rfl, Option.some.inj hm, rfl, H.less _ (fun fr => by kernel_rfl)⟩
                · clear ho
                  intro e fr h7 hQ
                  rcases hQ with ⟨rfl, rfl, _, H⟩ | ⟨x17, rfl, rfl, _, H⟩ | hF
                  · skip
                    show AW cfg 41 g (right (right (left (left (right (left (right (right (right (right (right (bodyC cfg.P 41)))))))))))) fr h7 _
                    refine aw_reg (id := 10) (n := 3) [(0, []), (1, []), (2, [])] (by kernel_rfl) (by kernel_rfl) ?_
                    refine at_seg [(0, []), (1, []), (2, [])] [(0, .ptr p0), (4, .ptr (some (h.size, 0))), (5, .ptr (some (h1.size, 0))), (7, .int .i64 x9), (8, .int .i64 (IntKind.i64.wrap (x15 + (1 : Int))))] H (noU_all rfl) (fun fr => by kernel_rfl) ?_
                    intro fr H
                    refine at_nil ?_
                    exact Exists.intro (IntKind.i64.wrap (x15 + (1 : Int)), h7) (And.intro (Option.some.inj hm).symm ⟨IntKind.i64.wrap (x15 + (1 : Int)), rfl, rfl, H.less _ (fun fr => by kernel_rfl)⟩)
                  · skip
                    exact Exists.intro _ (And.intro (Option.some.inj hm).symm (fun e => Or.inr (Or.inl ⟨x17, rfl, e, rfl, H.less _ (fun fr => by kernel_rfl)⟩)))
                  · exact hF.elim
              · replace H := H.know 41 hb (by kernel_rfl)
                refine aw_false (x := .tmp 41) (by kernel_rfl) H (fun fr => by kernel_rfl) ?_
                refine aw_exit (i := 0) (by kernel_rfl) ?_
                exact Exists.intro _ (And.intro (Option.some.inj hm).symm (fun e => Or.inl ⟨rfl, e, rfl, H.less _ (fun fr => by kernel_rfl)⟩))
            · clear ho
              intro e fr h8 hQ
              rcases hQ with ⟨rfl, rfl, _, H⟩ | ⟨x14, rfl, rfl, _, H⟩ | hF
              · skip
                show AW cfg 41 g (right (right (right (right (right (right (bodyC cfg.P 41))))))) fr h8 _
                refine aw_seq (by kernel_rfl) ?_
                refine aw_reg (id := 14) (n := 1) [(0, [])] (by kernel_rfl) (by kernel_rfl) ?_
                refine at_seg [(0, [])] [(6, .bool false)] H (noU_all rfl) (fun fr => by kernel_rfl) ?_
                intro fr H
                refine at_nil ?_
                show AW cfg 41 g (right (right (right (right (right (right (right (bodyC cfg.P 41)))))))) fr h8 _
                refine aw_ret (by kernel_rfl) ?_
                obtain ⟨e1, e2⟩ := inj2 hm
                subst e2
                subst e1
                exact (done_ret H (fun fr => by kernel_rfl) rfl : doneQ cfg.P _ _ _ _ fr _)
              · skip
                obtain ⟨e1, e2⟩ := inj2 hm
                subst e2
                subst e1
                exact (done_ret H (fun fr => by kernel_rfl) rfl : doneQ cfg.P _ _ _ _ fr _)
              · exact hF.elim
          · exact hF.elim
noncomputable def rSC_tree_asker_does_1_s0 : Nat → SC_tree_asker_does_1_s0
  | 0 => ⟨fun _ _ _ _ _ _ => none, fun _ _ _ _ => none, fun _ _ _ _ => none, fun _ _ _ _ _ _ _ _ _ _ => none, fun _ _ _ _ _ _ => none, fun _ _ _ _ _ _ => none, fun _ _ _ _ _ => none⟩
  | n + 1 => ⟨B_tree_asker_does_1_s0 (rSC_tree_asker_does_1_s0 n), B_tree_asker_asks (rSC_tree_asker_does_1_s0 n), B_tree_asker_does (rSC_tree_asker_does_1_s0 n), B_tree_asker_cut_s0 (rSC_tree_asker_does_1_s0 n), B_tree_asker_does_2_s0 (rSC_tree_asker_does_1_s0 n), B_tree_asker_does_3_s0 (rSC_tree_asker_does_1_s0 n), B_tree_asker_repeats (rSC_tree_asker_does_1_s0 n)⟩
theorem okrSC_tree_asker_does_1_s0 : ∀ n, OkSC_tree_asker_does_1_s0 (rSC_tree_asker_does_1_s0 n)
  | 0 => ⟨fun hm => (by cases hm), fun hm => (by cases hm), fun hm => (by cases hm), fun hm => (by cases hm), fun hm => (by cases hm), fun hm => (by cases hm), fun hm => (by cases hm)⟩
  | n + 1 => ⟨fun hm => okB_tree_asker_does_1_s0 (okrSC_tree_asker_does_1_s0 n) hm, fun hm => okB_tree_asker_asks (okrSC_tree_asker_does_1_s0 n) hm, fun hm => okB_tree_asker_does (okrSC_tree_asker_does_1_s0 n) hm, fun hm => okB_tree_asker_cut_s0 (okrSC_tree_asker_does_1_s0 n) hm, fun hm => okB_tree_asker_does_2_s0 (okrSC_tree_asker_does_1_s0 n) hm, fun hm => okB_tree_asker_does_3_s0 (okrSC_tree_asker_does_1_s0 n) hm, fun hm => okB_tree_asker_repeats (okrSC_tree_asker_does_1_s0 n) hm⟩
noncomputable def M_tree_asker_does_1_s0 : Gd → AHeap → Int → Int → Int → (Nat × Nat) → Option ((Bool) × AHeap) := (rSC_tree_asker_does_1_s0 bigF).M_tree_asker_does_1_s0
theorem ok_tree_asker_does_1_s0 {g : Gd} {h h' : AHeap} {p0 : Int} {p1 : Int} {p2 : Int} {p3 : Nat × Nat} {r0 : Bool} (hm : M_tree_asker_does_1_s0 g h p0 p1 p2 p3 = some (r0, h')) : Runs cfg g h 37 [.int .i64 p0, .int .i64 p1, .int .i64 p2, .ptr (some (p3.1, p3.2))] (.bool r0) h' := (okrSC_tree_asker_does_1_s0 bigF).ok_tree_asker_does_1_s0 hm
noncomputable def M_tree_asker_asks : Gd → AHeap → (Option (Nat × Nat)) → (List AVal) → Option ((Bool) × AHeap) := (rSC_tree_asker_does_1_s0 bigF).M_tree_asker_asks
theorem ok_tree_asker_asks {g : Gd} {h h' : AHeap} {p0 : Option (Nat × Nat)} {p1 : List AVal} {r0 : Bool} (hm : M_tree_asker_asks g h p0 p1 = some (r0, h')) : Runs cfg g h 23 [.ptr p0, .agg p1] (.bool r0) h' := (okrSC_tree_asker_does_1_s0 bigF).ok_tree_asker_asks hm
noncomputable def M_tree_asker_does : Gd → AHeap → (Option (Nat × Nat)) → (List AVal) → Option ((Bool) × AHeap) := (rSC_tree_asker_does_1_s0 bigF).M_tree_asker_does
theorem ok_tree_asker_does {g : Gd} {h h' : AHeap} {p0 : Option (Nat × Nat)} {p1 : List AVal} {r0 : Bool} (hm : M_tree_asker_does g h p0 p1 = some (r0, h')) : Runs cfg g h 32 [.ptr p0, .agg p1] (.bool r0) h' := (okrSC_tree_asker_does_1_s0 bigF).ok_tree_asker_does hm
noncomputable def M_tree_asker_cut_s0 : Gd → AHeap → (Option (Nat × Nat)) → (List AVal) → (Nat × Nat) → (Nat × Nat) → (Nat × Nat) → (Nat × Nat) → (Nat × Nat) → (Nat × Nat) → Option ((Bool) × AHeap) := (rSC_tree_asker_does_1_s0 bigF).M_tree_asker_cut_s0
theorem ok_tree_asker_cut_s0 {g : Gd} {h h' : AHeap} {p0 : Option (Nat × Nat)} {p1 : List AVal} {p2c0 : Nat × Nat} {p2c1 : Nat × Nat} {p2c2 : Nat × Nat} {p3c0 : Nat × Nat} {p3c1 : Nat × Nat} {p3c2 : Nat × Nat} {r0 : Bool} (hm : M_tree_asker_cut_s0 g h p0 p1 p2c0 p2c1 p2c2 p3c0 p3c1 p3c2 = some (r0, h')) : Runs cfg g h 38 [.ptr p0, .agg p1, .func (.func 39) [] [.ptr (some (p2c0.1, p2c0.2)), .ptr (some (p2c1.1, p2c1.2)), .ptr (some (p2c2.1, p2c2.2))], .func (.func 40) [] [.ptr (some (p3c0.1, p3c0.2)), .ptr (some (p3c1.1, p3c1.2)), .ptr (some (p3c2.1, p3c2.2))]] (.bool r0) h' := (okrSC_tree_asker_does_1_s0 bigF).ok_tree_asker_cut_s0 hm
noncomputable def M_tree_asker_does_2_s0 : Gd → AHeap → Int → (Nat × Nat) → (Nat × Nat) → (Nat × Nat) → Option ((Bool) × AHeap) := (rSC_tree_asker_does_1_s0 bigF).M_tree_asker_does_2_s0
theorem ok_tree_asker_does_2_s0 {g : Gd} {h h' : AHeap} {p0 : Int} {p1 : Nat × Nat} {p2 : Nat × Nat} {p3 : Nat × Nat} {r0 : Bool} (hm : M_tree_asker_does_2_s0 g h p0 p1 p2 p3 = some (r0, h')) : Runs cfg g h 39 [.int .i64 p0, .ptr (some (p1.1, p1.2)), .ptr (some (p2.1, p2.2)), .ptr (some (p3.1, p3.2))] (.bool r0) h' := (okrSC_tree_asker_does_1_s0 bigF).ok_tree_asker_does_2_s0 hm
noncomputable def M_tree_asker_does_3_s0 : Gd → AHeap → Int → (Nat × Nat) → (Nat × Nat) → (Nat × Nat) → Option ((Bool) × AHeap) := (rSC_tree_asker_does_1_s0 bigF).M_tree_asker_does_3_s0
theorem ok_tree_asker_does_3_s0 {g : Gd} {h h' : AHeap} {p0 : Int} {p1 : Nat × Nat} {p2 : Nat × Nat} {p3 : Nat × Nat} {r0 : Bool} (hm : M_tree_asker_does_3_s0 g h p0 p1 p2 p3 = some (r0, h')) : Runs cfg g h 40 [.int .i64 p0, .ptr (some (p1.1, p1.2)), .ptr (some (p2.1, p2.2)), .ptr (some (p3.1, p3.2))] (.bool r0) h' := (okrSC_tree_asker_does_1_s0 bigF).ok_tree_asker_does_3_s0 hm
noncomputable def M_tree_asker_repeats : Gd → AHeap → (Option (Nat × Nat)) → (List AVal) → (List AVal) → Option ((Bool) × AHeap) := (rSC_tree_asker_does_1_s0 bigF).M_tree_asker_repeats
theorem ok_tree_asker_repeats {g : Gd} {h h' : AHeap} {p0 : Option (Nat × Nat)} {p1 : List AVal} {p2 : List AVal} {r0 : Bool} (hm : M_tree_asker_repeats g h p0 p1 p2 = some (r0, h')) : Runs cfg g h 41 [.ptr p0, .agg p1, .agg p2] (.bool r0) h' := (okrSC_tree_asker_does_1_s0 bigF).ok_tree_asker_repeats hm
/-! ### (boulter/tree.Tree).Matches -/
noncomputable def M_tree_Tree_Matches (h : AHeap) (p0 : List AVal) (p1 : List UInt8) (p2 : Int) (p3 : Int) : Option (Bool) :=
 need (p0.all AVal.one) <| (some (h.push (.cells none 2 p0))).bind fun h1 => (ldA h1 (h.size, 0) 2).bind fun x1 => (M_tree_Tree_Right h1 x1).bind fun x2 => iteB ((((!x2) || (decide (p2 < (0 : Int)))) || (decide (p3 < p2))) || (decide (p3 > (p1.length : Int)))) (some false) ((ldA h1 (h.size, 0) 2).bind fun x3 => (some (h1.push (.map 2 []))).bind fun h2 => need (Nat.beq x3.length 2) <| need ((x3 ++ ([.str p1, .map (some h1.size)] : List AVal)).all AVal.one) <| (some (h2.push (.cells none 2 (x3 ++ ([.str p1, .map (some h1.size)] : List AVal))))).bind fun h3 => (ldI h3 (h.size, 1) .i64).bind fun x4 => (M_tree_asker_asks (⟨h.size, []⟩ : Gd) h3 (some (h2.size, 0)) [.int .i64 x4, .int .i64 (0 : Int), .int .i64 p2, .int .i64 p3]).bind fun (x5, h4) => some x5)
theorem ok_tree_Tree_Matches {g : Gd} {h : AHeap} {p0 : List AVal} {p1 : List UInt8} {p2 : Int} {p3 : Int} {r0 : Bool} (hm : M_tree_Tree_Matches h p0 p1 p2 p3 = some r0) : Runs cfg g h 15 [.agg p0, .str p1, .int .i64 p2, .int .i64 p3] (.bool r0) h := by
  refine runs2E (by kernel_rfl) (by kernel_rfl) (body_ofE (n := 40) (rs := [.tmp 8]) (by kernel_rfl) ?_)
  unfold M_tree_Tree_Matches at hm
  refine start (n := 40) [(0, .agg p0), (1, .str p1), (2, .int .i64 p2), (3, .int .i64 p3)] (by kernel_rfl) (by kernel_rfl) ?_
  intro fr H
  refine aw_seq (by kernel_rfl) ?_
  refine aw_reg (id := 0) (n := 2) [(0, []), (1, [])] (by kernel_rfl) (by kernel_rfl) ?_
  obtain ⟨hb, hm⟩ := need_some hm
  obtain ⟨h1, hx, hm⟩ := bind_some hm
  refine at_step (v := .ptr (some (h.size, 0))) (h1 := h1) [(1, .str p1), (2, .int .i64 p2), (3, .int .i64 p3), (4, .ptr (some (h.size, 0)))] H (fun fr => by kernel_rfl) (fun fr => .of (s_boxG (by kernel_rfl) hb hx)) ?_
  intro fr t H
  refine at_seg [(1, [])] [(1, .str p1), (2, .int .i64 p2), (3, .int .i64 p3), (4, .ptr (some (h.size, 0)))] H (noU_all rfl) (fun fr => by kernel_rfl) ?_
  intro fr H
  refine at_nil ?_
  show AW cfg 15 (⟨h.size, []⟩ : Gd) (right (bodyC cfg.P 15)) fr h1 _
  refine aw_seq (by kernel_rfl) ?_
  refine aw_seq (by kernel_rfl) ?_
  refine aw_reg (id := 1) (n := 18) [(0, []), (1, []), (2, []), (3, []), (4, []), (5, []), (6, []), (7, []), (8, []), (9, []), (10, []), (11, []), (12, []), (13, []), (14, []), (15, []), (16, []), (17, [])] (by kernel_rfl) (by kernel_rfl) ?_
  obtain ⟨x1, hx, hm⟩ := bind_some hm
  refine at_step (v := .agg x1) (h1 := h1) [(1, .str p1), (2, .int .i64 p2), (3, .int .i64 p3), (4, .ptr (some (h.size, 0))), (10, .agg x1)] H (fun fr => by kernel_rfl) (fun fr => .of (s_ldA (by kernel_rfl) hx)) ?_
  intro fr t H
  obtain ⟨x2, hx, hm⟩ := bind_some hm
  refine at_step (v := .bool x2) (h1 := h1) [(1, .str p1), (2, .int .i64 p2), (3, .int .i64 p3), (4, .ptr (some (h.size, 0))), (11, .bool x2)] H (fun fr => by kernel_rfl) (fun fr => Steps.call (by kernel_rfl) (ok_tree_Tree_Right hx)) ?_
  intro fr t H
  refine at_seg [(2, []), (3, [])] [(1, .str p1), (2, .int .i64 p2), (3, .int .i64 p3), (4, .ptr (some (h.size, 0))), (13, .bool (!x2))] H (noU_all rfl) (fun fr => by kernel_rfl) ?_
  intro fr H
  refine at_cut [(4, []), (5, []), (6, [])] (fun fr' h' => h1 = h' ∧ Has fr' 40 [(1, .str p1), (2, .int .i64 p2), (3, .int .i64 p3), (4, .ptr (some (h.size, 0))), (16, .bool ((!x2) || (decide (p2 < (0 : Int)))))]) ?_ ?_
  · cases hb : (!x2 : Bool) with
    | true =>
      replace H := H.know 13 hb (by kernel_rfl)
      refine at_seg [(4, []), (5, []), (6, [])] [(1, .str p1), (2, .int .i64 p2), (3, .int .i64 p3), (4, .ptr (some (h.size, 0))), (16, .bool true)] H (noU_all rfl) (fun fr => by kernel_rfl) ?_
      intro fr H
      exact at_nil ⟨rfl, by first | exact H.less _ (fun fr => by rfl) | exact H.less _ (fun fr => by rw [hb]; rfl)⟩
    | false =>
      replace H := H.know 13 hb (by kernel_rfl)
      refine at_seg [(4, []), (5, []), (6, [])] [(1, .str p1), (2, .int .i64 p2), (3, .int .i64 p3), (4, .ptr (some (h.size, 0))), (16, .bool (decide (p2 < (0 : Int))))] H (noU_all rfl) (fun fr => by kernel_rfl) ?_
      intro fr H
      exact at_nil ⟨rfl, by first | exact H.less _ (fun fr => by rfl) | exact H.less _ (fun fr => by rw [hb]; rfl)⟩
  · intro t fr h' hK
    obtain ⟨e, H⟩ := hK
    subst e
    refine at_seg [(7, [])] [(1, .str p1), (2, .int .i64 p2), (3, .int .i64 p3), (4, .ptr (some (h.size, 0))), (17, .bool ((!x2) || (decide (p2 < (0 : Int)))))] H (noU_all rfl) (fun fr => by kernel_rfl) ?_
    intro fr H
    refine at_cut [(8, []), (9, []), (10, []), (11, [])] (fun fr' h' => h1 = h' ∧ Has fr' 40 [(1, .str p1), (2, .int .i64 p2), (3, .int .i64 p3), (4, .ptr (some (h.size, 0))), (21, .bool (((!x2) || (decide (p2 < (0 : Int)))) || (decide (p3 < p2))))]) ?_ ?_
    · cases hb : ((!x2) || (decide (p2 < (0 : Int))) : Bool) with
      | true =>
        replace H := H.know 17 hb (by kernel_rfl)
        refine at_seg [(8, []), (9, []), (10, []), (11, [])] [(1, .str p1), (2, .int .i64 p2), (3, .int .i64 p3), (4, .ptr (some (h.size, 0))), (21, .bool true)] H (noU_all rfl) (fun fr => by kernel_rfl) ?_
        intro fr H
        exact at_nil ⟨rfl, by first | exact H.less _ (fun fr => by rfl) | exact H.less _ (fun fr => by rw [hb]; rfl)⟩
      | false =>
        replace H := H.know 17 hb (by kernel_rfl)
        refine at_seg [(8, []), (9, []), (10, []), (11, [])] [(1, .str p1), (2, .int .i64 p2), (3, .int .i64 p3), (4, .ptr (some (h.size, 0))), (21, .bool (decide (p3 < p2)))] H (noU_all rfl) (fun fr => by kernel_rfl) ?_
        intro fr H
        exact at_nil ⟨rfl, by first | exact H.less _ (fun fr => by rfl) | exact H.less _ (fun fr => by rw [hb]; rfl)⟩
    · intro t fr h' hK
      obtain ⟨e, H⟩ := hK
      subst e
      refine at_seg [(12, [])] [(1, .str p1), (2, .int .i64 p2), (3, .int .i64 p3), (4, .ptr (some (h.size, 0))), (22, .bool (((!x2) || (decide (p2 < (0 : Int)))) || (decide (p3 < p2))))] H (noU_all rfl) (fun fr => by kernel_rfl) ?_
      intro fr H
      refine at_cut [(13, []), (14, []), (15, []), (16, []), (17, [])] (fun fr' h' => h1 = h' ∧ Has fr' 40 [(1, .str p1), (2, .int .i64 p2), (3, .int .i64 p3), (4, .ptr (some (h.size, 0))), (27, .bool ((((!x2) || (decide (p2 < (0 : Int)))) || (decide (p3 < p2))) || (decide (p3 > (p1.length : Int)))))]) ?_ ?_
      · cases hb : (((!x2) || (decide (p2 < (0 : Int)))) || (decide (p3 < p2)) : Bool) with
        | true =>
          replace H := H.know 22 hb (by kernel_rfl)
          refine at_seg [(13, []), (14, []), (15, []), (16, []), (17, [])] [(1, .str p1), (2, .int .i64 p2), (3, .int .i64 p3), (4, .ptr (some (h.size, 0))), (27, .bool true)] H (noU_all rfl) (fun fr => by kernel_rfl) ?_
          intro fr H
          exact at_nil ⟨rfl, by first | exact H.less _ (fun fr => by rfl) | exact H.less _ (fun fr => by rw [hb]; rfl)⟩
        | false =>
          replace H := H.know 22 hb (by kernel_rfl)
          refine at_seg [(13, []), (14, []), (15, []), (16, []), (17, [])] [(1, .str p1), (2, .int .i64 p2), (3, .int .i64 p3), (4, .ptr (some (h.size, 0))), (27, .bool (decide (p3 > (p1.length : Int))))] H (noU_all rfl) (fun fr => by kernel_rfl) ?_
          intro fr H
          exact at_nil ⟨rfl, by first | exact H.less _ (fun fr => by rfl) | exact H.less _ (fun fr => by rw [hb]; rfl)⟩
      · intro t fr h' hK
        obtain ⟨e, H⟩ := hK
        subst e
        refine at_nil ?_
        show AW cfg 15 (⟨h.size, []⟩ : Gd) (right (left (right (bodyC cfg.P 15)))) fr h1 _
        rcases iteB_some hm with ⟨hb, hm⟩ | ⟨hb, hm⟩
        · replace H := H.know 27 hb (by kernel_rfl)
          refine aw_true (x := .tmp 27) (by kernel_rfl) H (fun fr => by kernel_rfl) ?_
          refine aw_seq (by kernel_rfl) ?_
          refine aw_reg (id := 2) (n := 1) [(0, [])] (by kernel_rfl) (by kernel_rfl) ?_
          refine at_seg [(0, [])] [(8, .bool false)] H (noU_all rfl) (fun fr => by kernel_rfl) ?_
          intro fr H
          refine at_nil ?_
          show AW cfg 15 (⟨h.size, []⟩ : Gd) (right (left (right (left (right (bodyC cfg.P 15)))))) fr h1 _
          refine aw_ret (by kernel_rfl) ?_
          have e1 := Option.some.inj hm
          subst e1
          exact (doneE_of .ret H (fun fr => by kernel_rfl) (.inl rfl) : doneE cfg.P _ _ _ fr _)
        · replace H := H.know 27 hb (by kernel_rfl)
          refine aw_false (x := .tmp 27) (by kernel_rfl) H (fun fr => by kernel_rfl) ?_
          refine aw_skip (by kernel_rfl) ?_
          show AW cfg 15 (⟨h.size, []⟩ : Gd) (right (right (bodyC cfg.P 15))) fr h1 _
          refine aw_seq (by kernel_rfl) ?_
          refine aw_reg (id := 3) (n := 6) [(0, []), (1, []), (2, []), (3, []), (4, []), (5, [])] (by kernel_rfl) (by kernel_rfl) ?_
          obtain ⟨x3, hx, hm⟩ := bind_some hm
          refine at_step (v := .agg x3) (h1 := h1) [(1, .str p1), (2, .int .i64 p2), (3, .int .i64 p3), (4, .ptr (some (h.size, 0))), (28, .agg x3)] H (fun fr => by kernel_rfl) (fun fr => .of (s_ldA (by kernel_rfl) hx)) ?_
          intro fr t H
          refine at_seg [(1, [])] [(2, .int .i64 p2), (3, .int .i64 p3), (4, .ptr (some (h.size, 0))), (28, .agg x3), (29, .str p1)] H (noU_all rfl) (fun fr => by kernel_rfl) ?_
          intro fr H
          obtain ⟨h2, hx, hm⟩ := bind_some hm
          refine at_step (v := .map (some h1.size)) (h1 := h2) [(2, .int .i64 p2), (3, .int .i64 p3), (4, .ptr (some (h.size, 0))), (28, .agg x3), (29, .str p1), (30, .map (some h1.size))] H (fun fr => by kernel_rfl) (fun fr => .of (s_n' (by kernel_rfl) hx)) ?_
          intro fr t H
          obtain ⟨hb0, hm⟩ := need_some hm
          refine at_step (v := .agg (x3 ++ ([.str p1, .map (some h1.size)] : List AVal))) (h1 := h2) [(2, .int .i64 p2), (3, .int .i64 p3), (4, .ptr (some (h.size, 0))), (31, .agg (x3 ++ ([.str p1, .map (some h1.size)] : List AVal)))] H (fun fr => by kernel_rfl) (fun fr => .of (s_build (t := 60) (ps := [(0, .agg x3), (1, .str p1), (2, .map (some h1.size))]) (by kernel_rfl) (by rw [toN_eq hb0]; kernel_rfl))) ?_
          intro fr t H
          obtain ⟨hb, hm⟩ := need_some hm
          obtain ⟨h3, hx, hm⟩ := bind_some hm
          refine at_step (v := .ptr (some (h2.size, 0))) (h1 := h3) [(2, .int .i64 p2), (3, .int .i64 p3), (4, .ptr (some (h.size, 0))), (32, .ptr (some (h2.size, 0)))] H (fun fr => by kernel_rfl) (fun fr => .of (s_boxG (by kernel_rfl) hb hx)) ?_
          intro fr t H
          refine at_seg [(5, [])] [(2, .int .i64 p2), (3, .int .i64 p3), (4, .ptr (some (h.size, 0))), (9, .ptr (some (h2.size, 0)))] H (noU_all rfl) (fun fr => by kernel_rfl) ?_
          intro fr H
          refine at_nil ?_
          show AW cfg 15 (⟨h.size, []⟩ : Gd) (right (right (right (bodyC cfg.P 15)))) fr h3 _
          refine aw_seq (by kernel_rfl) ?_
          refine aw_reg (id := 4) (n := 8) [(0, []), (1, []), (2, []), (3, []), (4, []), (5, []), (6, []), (7, [])] (by kernel_rfl) (by kernel_rfl) ?_
          refine at_seg [(0, []), (1, [])] [(2, .int .i64 p2), (3, .int .i64 p3), (33, .ptr (some (h2.size, 0))), (34, .ptr (some (h.size, 1)))] H (noU_all rfl) (fun fr => by kernel_rfl) ?_
          intro fr H
          obtain ⟨x4, hx, hm⟩ := bind_some hm
          refine at_step (v := .int .i64 x4) (h1 := h3) [(2, .int .i64 p2), (3, .int .i64 p3), (33, .ptr (some (h2.size, 0))), (35, .int .i64 x4)] H (fun fr => by kernel_rfl) (fun fr => .of (s_ld (by kernel_rfl) (ldI_eq hx))) ?_
          intro fr t H
          refine at_seg [(3, []), (4, []), (5, [])] [(33, .ptr (some (h2.size, 0))), (38, .agg [.int .i64 x4, .int .i64 (0 : Int), .int .i64 p2, .int .i64 p3])] H (noU_all rfl) (fun fr => by kernel_rfl) ?_
          intro fr H
          obtain ⟨⟨x5, h4⟩, hx, hm⟩ := bind_some hm
          refine at_step (v := .bool x5) (h1 := h4) [(39, .bool x5)] H (fun fr => by kernel_rfl) (fun fr => Steps.call (by kernel_rfl) (ok_tree_asker_asks hx)) ?_
          intro fr t H
          refine at_seg [(7, [])] [(8, .bool x5)] H (noU_all rfl) (fun fr => by kernel_rfl) ?_
          intro fr H
          refine at_nil ?_
          show AW cfg 15 (⟨h.size, []⟩ : Gd) (right (right (right (right (bodyC cfg.P 15))))) fr h4 _
          refine aw_ret (by kernel_rfl) ?_
          have e1 := Option.some.inj hm
          subst e1
          exact (doneE_of .ret H (fun fr => by kernel_rfl) (.inl rfl) : doneE cfg.P _ _ _ fr _)
end Go.Abs.L
