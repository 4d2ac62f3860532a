/-
  Models of functions of package subst, and that the abstract run tells them. Written by lift.py.
-/
import Derived.Test.YtklabpnclemmoaaLCfg
import Derived.Test.YtklabpnclemmoaaLgroups
import Derived.Test.YtklabpnclemmoaaLsubst
namespace Go.Abs.L
open Go.Abs
set_option linter.unusedVariables false
/-! ### boulter/subst.Expand -/
noncomputable def M_subst_Expand_L0 (h : AHeap) (p0 : Sl) (p1 : List UInt8) (p2 : Sl) (s : Int × AHeap) : Option ((Int × AHeap) ⊕ ((AHeap))) :=
  match s with
  | (x2, h2) => iteB (decide (x2 < ((p0.n : Nat) : Int))) (((ixL p0 3 x2).bind fun a1 => (ldA h2 (a1.1, a1.2) 3).bind fun x3 => (some (h2.push (.cells none 2 [.int .i64 (0 : Int), .int .i64 (0 : Int), .str ([] : List UInt8)]))).bind fun h3 => (stG 3 (⟨h.size, []⟩ : Gd) h3 (h2.size, 0) x3).bind fun h4 => (ldI h4 (h2.size, 0) .i64).bind fun x4 => iteB (x4 == (0 : Int)) ((ldS h4 (h2.size, 2)).bind fun x5 => (M_subst_turner_put (⟨h.size, []⟩ : Gd) h4 (some (h.size, 0)) x5).bind fun (_, h5) => some h5) (iteB (x4 == (1 : Int)) ((ldI h4 (h2.size, 1) .i64).bind fun x6 => (iteB (decide (x6 ≥ (0 : Int))) ((ldI h4 (h2.size, 1) .i64).bind fun x8 => some (decide (x8 < ((p2.n : Nat) : Int)))) (some false) : Option (Bool)).bind fun x7 => iteB x7 ((ldI h4 (h2.size, 1) .i64).bind fun x9 => (ixL p2 3 x9).bind fun a2 => (ldA h4 (a2.1, a2.2) 3).bind fun x10 => (M_groups_Text h4 p1 x10).bind fun x11 => (M_subst_turner_put (⟨h.size, []⟩ : Gd) h4 (some (h.size, 0)) x11).bind fun (_, h6) => some h6) (some h4)) ((iteB (x4 == (2 : Int)) (some true) (iteB (x4 == (3 : Int)) (some true) (some (x4 == (4 : Int)))) : Option ((Bool))).bind fun x12 => iteB x12 ((ldI h4 (h2.size, 0) .i64).bind fun x13 => (st (⟨h.size, []⟩ : Gd) h4 (h.size, 1) [.int .i64 x13]).bind fun h7 => some h7) ((iteB (x4 == (5 : Int)) (some true) (some (x4 == (6 : Int))) : Option ((Bool))).bind fun x14 => iteB x14 ((ldI h4 (h2.size, 0) .i64).bind fun x15 => (st (⟨h.size, []⟩ : Gd) h4 (h.size, 2) [.int .i64 x15]).bind fun h8 => some h8) (some h4)))) : Option ((AHeap))).bind fun h9 => some (.inl (IntKind.i64.wrap (x2 + (1 : Int)), h9))) (some (.inr h2))
noncomputable def M_subst_Expand (h : AHeap) (p0 : Sl) (p1 : List UInt8) (p2 : Sl) : Option ((List UInt8)) :=
 (some (h.push (.cells none 2 [.slice none 0, .int .i64 (4 : Int), .int .i64 (0 : Int)]))).bind fun h1 => (loop (M_subst_Expand_L0 h p0 p1 p2) ((0 : Int), h1)).bind fun h10 => (ldL h10 (h.size, 0)).bind fun x16 => (byL h10 x16).bind fun x17 => some x17
theorem ok_subst_Expand {g : Gd} {h : AHeap} {p0 : Sl} {p1 : List UInt8} {p2 : Sl} {r0 : List UInt8} (hm : M_subst_Expand h p0 p1 p2 = some r0) : Runs cfg g h 31 [.slice p0.r p0.n, .str p1, .slice p2.r p2.n] (.str r0) h := by
  refine runs2E (by kernel_rfl) (by kernel_rfl) (body_ofE (n := 70) (rs := [.tmp 6]) (by kernel_rfl) ?_)
  unfold M_subst_Expand at hm
  refine start (n := 70) [(0, .slice p0.r p0.n), (1, .str p1), (2, .slice p2.r p2.n)] (by kernel_rfl) (by kernel_rfl) ?_
  intro fr H
  refine aw_seq (by kernel_rfl) ?_
  refine aw_reg (id := 0) (n := 1) [(0, [])] (by kernel_rfl) (by kernel_rfl) ?_
  refine at_seg [(0, [])] [(0, .slice p0.r p0.n), (1, .str p1), (2, .slice p2.r p2.n)] H (noU_all rfl) (fun fr => by kernel_rfl) ?_
  intro fr H
  refine at_nil ?_
  show AW cfg 31 (⟨h.size, []⟩ : Gd) (right (bodyC cfg.P 31)) fr h _
  refine aw_seq (by kernel_rfl) ?_
  refine aw_reg (id := 1) (n := 3) [(0, []), (1, []), (2, [])] (by kernel_rfl) (by kernel_rfl) ?_
  refine at_seg [(0, [])] [(0, .slice p0.r p0.n), (1, .str p1), (2, .slice p2.r p2.n), (10, .agg [.slice none 0, .int .i64 (4 : Int), .int .i64 (0 : Int)])] H (noU_all rfl) (fun fr => by kernel_rfl) ?_
  intro fr H
  obtain ⟨h1, hx, hm⟩ := bind_some hm
  refine at_step (v := .ptr (some (h.size, 0))) (h1 := h1) [(0, .slice p0.r p0.n), (1, .str p1), (2, .slice p2.r p2.n), (11, .ptr (some (h.size, 0)))] H (fun fr => by kernel_rfl) (fun fr => .of (s_n' (by kernel_rfl) hx)) ?_
  intro fr t H
  refine at_seg [(2, [])] [(0, .slice p0.r p0.n), (1, .str p1), (2, .slice p2.r p2.n), (7, .ptr (some (h.size, 0)))] H (noU_all rfl) (fun fr => by kernel_rfl) ?_
  intro fr H
  refine at_nil ?_
  show AW cfg 31 (⟨h.size, []⟩ : Gd) (right (right (bodyC cfg.P 31))) fr h1 _
  refine aw_seq (by kernel_rfl) ?_
  refine aw_seq (by kernel_rfl) ?_
  refine aw_reg (id := 2) (n := 3) [(0, []), (1, []), (2, [])] (by kernel_rfl) (by kernel_rfl) ?_
  refine at_seg [(0, []), (1, []), (2, [])] [(1, .str p1), (2, .slice p2.r p2.n), (7, .ptr (some (h.size, 0))), (12, .slice p0.r p0.n), (13, .int .i64 ((p0.n : Nat) : Int)), (14, .int .i64 (0 : Int))] H (noU_all rfl) (fun fr => by kernel_rfl) ?_
  intro fr H
  refine at_nil ?_
  show AW cfg 31 (⟨h.size, []⟩ : Gd) (right (left (right (right (bodyC cfg.P 31))))) fr h1 _
  refine aw_block (id := 0) (by kernel_rfl) ?_
  obtain ⟨o1, ho, hm⟩ := bind_some hm
  refine aw_mono (Q' := fun e fr' h' => (e = .exit 0 ∧ h' = o1 ∧ h' = h' ∧ Has fr' 70 [(7, .ptr (some (h.size, 0)))]) ∨ False) ?_ ?_
  · refine aw_loop (by kernel_rfl) (fun (s : Int × AHeap) fr' h' => ∃ (x2 : Int), (x2, h') = s ∧ h' = h' ∧ Has fr' 70 [(1, .str p1), (2, .slice p2.r p2.n), (7, .ptr (some (h.size, 0))), (12, .slice p0.r p0.n), (13, .int .i64 ((p0.n : Nat) : Int)), (14, .int .i64 x2)]) ho ⟨(0 : Int), rfl, rfl, H.less _ (fun fr => by kernel_rfl)⟩ ?_
    clear ho hm H
    intro s q fr h2 hI hm
    obtain ⟨x2, rfl, _, H⟩ := hI
    unfold M_subst_Expand_L0 at hm
    refine aw_seq (by kernel_rfl) ?_
    refine aw_reg (id := 3) (n := 1) [(0, [])] (by kernel_rfl) (by kernel_rfl) ?_
    refine at_seg [(0, [])] [(1, .str p1), (2, .slice p2.r p2.n), (7, .ptr (some (h.size, 0))), (12, .slice p0.r p0.n), (13, .int .i64 ((p0.n : Nat) : Int)), (14, .int .i64 x2), (15, .bool (decide (x2 < ((p0.n : Nat) : Int))))] H (noU_all rfl) (fun fr => by kernel_rfl) ?_
    intro fr H
    refine at_nil ?_
    show AW cfg 31 (⟨h.size, []⟩ : Gd) (right (left (left (right (left (right (right (bodyC cfg.P 31)))))))) fr h2 _
    refine aw_seq (by kernel_rfl) ?_
    rcases iteB_some hm with ⟨hb, hm⟩ | ⟨hb, hm⟩
    · replace H := H.know 15 hb (by kernel_rfl)
      refine aw_true (x := .tmp 15) (by kernel_rfl) H (fun fr => by kernel_rfl) ?_
      refine aw_skip (by kernel_rfl) ?_
      show AW cfg 31 (⟨h.size, []⟩ : Gd) (right (right (left (left (right (left (right (right (bodyC cfg.P 31))))))))) fr h2 _
      refine aw_seq (by kernel_rfl) ?_
      obtain ⟨o2, ho, hm⟩ := bind_some hm
      refine aw_mono (Q' := fun e fr' h' => (e = .normal ∧ h' = o2 ∧ h' = h' ∧ Has fr' 70 [(1, .str p1), (2, .slice p2.r p2.n), (7, .ptr (some (h.size, 0))), (12, .slice p0.r p0.n), (13, .int .i64 ((p0.n : Nat) : Int)), (14, .int .i64 x2)]) ∨ False) ?_ ?_
      · replace hm := ho
        clear ho
        refine aw_block (id := 1) (by kernel_rfl) ?_
        refine aw_seq (by kernel_rfl) ?_
        refine aw_reg (id := 4) (n := 4) [(0, []), (1, []), (2, []), (3, [])] (by kernel_rfl) (by kernel_rfl) ?_
        obtain ⟨a1, hx, hm⟩ := bind_some hm
        refine at_step (v := .ptr (some a1)) (h1 := h2) [(1, .str p1), (2, .slice p2.r p2.n), (7, .ptr (some (h.size, 0))), (12, .slice p0.r p0.n), (13, .int .i64 ((p0.n : Nat) : Int)), (14, .int .i64 x2), (16, .ptr (some (a1.1, a1.2)))] H (fun fr => by kernel_rfl) (fun fr => .of (s_ixL (s := p0) (by kernel_rfl) hx)) ?_
        intro fr t H
        obtain ⟨x3, hx, hm⟩ := bind_some hm
        refine at_step (v := .agg x3) (h1 := h2) [(1, .str p1), (2, .slice p2.r p2.n), (7, .ptr (some (h.size, 0))), (12, .slice p0.r p0.n), (13, .int .i64 ((p0.n : Nat) : Int)), (14, .int .i64 x2), (17, .agg x3)] H (fun fr => by kernel_rfl) (fun fr => .of (s_ldA (by kernel_rfl) hx)) ?_
        intro fr t H
        obtain ⟨h3, hx, hm⟩ := bind_some hm
        refine at_step (v := .ptr (some (h2.size, 0))) (h1 := h3) [(1, .str p1), (2, .slice p2.r p2.n), (7, .ptr (some (h.size, 0))), (9, .ptr (some (h2.size, 0))), (12, .slice p0.r p0.n), (13, .int .i64 ((p0.n : Nat) : Int)), (14, .int .i64 x2), (17, .agg x3)] H (fun fr => by kernel_rfl) (fun fr => .of (s_n' (by kernel_rfl) hx)) ?_
        intro fr t H
        obtain ⟨h4, hx, hm⟩ := bind_some hm
        refine at_step (v := .tuple []) (h1 := h4) [(1, .str p1), (2, .slice p2.r p2.n), (7, .ptr (some (h.size, 0))), (9, .ptr (some (h2.size, 0))), (12, .slice p0.r p0.n), (13, .int .i64 ((p0.n : Nat) : Int)), (14, .int .i64 x2)] H (fun fr => by kernel_rfl) (fun fr => .of (s_stG (by kernel_rfl) hx)) ?_
        intro fr t H
        refine at_nil ?_
        show AW cfg 31 (⟨h.size, []⟩ : Gd) (right (left (left (right (right (left (left (right (left (right (right (bodyC cfg.P 31)))))))))))) fr h4 _
        refine aw_seq (by kernel_rfl) ?_
        refine aw_reg (id := 5) (n := 2) [(0, []), (1, [])] (by kernel_rfl) (by kernel_rfl) ?_
        refine at_seg [(0, [])] [(1, .str p1), (2, .slice p2.r p2.n), (7, .ptr (some (h.size, 0))), (9, .ptr (some (h2.size, 0))), (12, .slice p0.r p0.n), (13, .int .i64 ((p0.n : Nat) : Int)), (14, .int .i64 x2), (18, .ptr (some (h2.size, 0)))] H (noU_all rfl) (fun fr => by kernel_rfl) ?_
        intro fr H
        obtain ⟨x4, hx, hm⟩ := bind_some hm
        refine at_step (v := .int .i64 x4) (h1 := h4) [(1, .str p1), (2, .slice p2.r p2.n), (7, .ptr (some (h.size, 0))), (9, .ptr (some (h2.size, 0))), (12, .slice p0.r p0.n), (13, .int .i64 ((p0.n : Nat) : Int)), (14, .int .i64 x2), (19, .int .i64 x4)] H (fun fr => by kernel_rfl) (fun fr => .of (s_ld (by kernel_rfl) (ldI_eq hx))) ?_
        intro fr t H
        refine at_nil ?_
        show AW cfg 31 (⟨h.size, []⟩ : Gd) (right (right (left (left (right (right (left (left (right (left (right (right (bodyC cfg.P 31))))))))))))) fr h4 _
        refine aw_block (id := 2) (by kernel_rfl) ?_
        refine aw_seq (by kernel_rfl) ?_
        refine aw_reg (id := 6) (n := 2) [(0, []), (1, [])] (by kernel_rfl) (by kernel_rfl) ?_
        refine at_seg [(0, []), (1, [])] [(1, .str p1), (2, .slice p2.r p2.n), (7, .ptr (some (h.size, 0))), (9, .ptr (some (h2.size, 0))), (12, .slice p0.r p0.n), (13, .int .i64 ((p0.n : Nat) : Int)), (14, .int .i64 x2), (19, .int .i64 x4), (20, .bool (x4 == (0 : Int)))] H (noU_all rfl) (fun fr => by kernel_rfl) ?_
        intro fr H
        refine at_nil ?_
        show AW cfg 31 (⟨h.size, []⟩ : Gd) (right (left (right (right (left (left (right (right (left (left (right (left (right (right (bodyC cfg.P 31))))))))))))))) fr h4 _
        rcases iteB_some hm with ⟨hb, hm⟩ | ⟨hb, hm⟩
        · replace H := H.know 20 hb (by kernel_rfl)
          refine aw_true (x := .tmp 20) (by kernel_rfl) H (fun fr => by kernel_rfl) ?_
          refine aw_reg (id := 7) (n := 4) [(0, []), (1, []), (2, []), (3, [])] (by kernel_rfl) (by kernel_rfl) ?_
          refine at_seg [(0, []), (1, [])] [(1, .str p1), (2, .slice p2.r p2.n), (7, .ptr (some (h.size, 0))), (12, .slice p0.r p0.n), (13, .int .i64 ((p0.n : Nat) : Int)), (14, .int .i64 x2), (22, .ptr (some (h.size, 0))), (23, .ptr (some (h2.size, 2)))] H (noU_all rfl) (fun fr => by kernel_rfl) ?_
          intro fr H
          obtain ⟨x5, hx, hm⟩ := bind_some hm
          refine at_step (v := .str x5) (h1 := h4) [(1, .str p1), (2, .slice p2.r p2.n), (7, .ptr (some (h.size, 0))), (12, .slice p0.r p0.n), (13, .int .i64 ((p0.n : Nat) : Int)), (14, .int .i64 x2), (22, .ptr (some (h.size, 0))), (24, .str x5)] H (fun fr => by kernel_rfl) (fun fr => .of (s_ld (by kernel_rfl) (ldS_eq hx))) ?_
          intro fr t H
          obtain ⟨⟨⟨⟩, h5⟩, hx, hm⟩ := bind_some hm
          refine at_step (v := .tuple []) (h1 := h5) [(1, .str p1), (2, .slice p2.r p2.n), (7, .ptr (some (h.size, 0))), (12, .slice p0.r p0.n), (13, .int .i64 ((p0.n : Nat) : Int)), (14, .int .i64 x2)] H (fun fr => by kernel_rfl) (fun fr => Steps.call (by kernel_rfl) (ok_subst_turner_put hx)) ?_
          intro fr t H
          refine at_nil ?_
          exact Or.inl ⟨rfl, Option.some.inj hm, rfl, H.less _ (fun fr => by kernel_rfl)⟩
        · replace H := H.know 20 hb (by kernel_rfl)
          refine aw_false (x := .tmp 20) (by kernel_rfl) H (fun fr => by kernel_rfl) ?_
          refine aw_seq (by kernel_rfl) ?_
          refine aw_reg (id := 8) (n := 2) [(0, []), (1, [])] (by kernel_rfl) (by kernel_rfl) ?_
          refine at_seg [(0, []), (1, [])] [(1, .str p1), (2, .slice p2.r p2.n), (7, .ptr (some (h.size, 0))), (9, .ptr (some (h2.size, 0))), (12, .slice p0.r p0.n), (13, .int .i64 ((p0.n : Nat) : Int)), (14, .int .i64 x2), (19, .int .i64 x4), (26, .bool (x4 == (1 : Int)))] H (noU_all rfl) (fun fr => by kernel_rfl) ?_
          intro fr H
          refine at_nil ?_
          show AW cfg 31 (⟨h.size, []⟩ : Gd) (right (right (right (left (right (right (left (left (right (right (left (left (right (left (right (right (bodyC cfg.P 31))))))))))))))))) fr h4 _
          rcases iteB_some hm with ⟨hb, hm⟩ | ⟨hb, hm⟩
          · replace H := H.know 26 hb (by kernel_rfl)
            refine aw_true (x := .tmp 26) (by kernel_rfl) H (fun fr => by kernel_rfl) ?_
            refine aw_seq (by kernel_rfl) ?_
            refine aw_reg (id := 9) (n := 10) [(0, []), (1, []), (2, []), (3, []), (4, []), (5, []), (6, []), (7, []), (8, []), (9, [])] (by kernel_rfl) (by kernel_rfl) ?_
            refine at_seg [(0, [])] [(1, .str p1), (2, .slice p2.r p2.n), (7, .ptr (some (h.size, 0))), (9, .ptr (some (h2.size, 0))), (12, .slice p0.r p0.n), (13, .int .i64 ((p0.n : Nat) : Int)), (14, .int .i64 x2), (28, .ptr (some (h2.size, 1)))] H (noU_all rfl) (fun fr => by kernel_rfl) ?_
            intro fr H
            obtain ⟨x6, hx, hm⟩ := bind_some hm
            refine at_step (v := .int .i64 x6) (h1 := h4) [(1, .str p1), (2, .slice p2.r p2.n), (7, .ptr (some (h.size, 0))), (9, .ptr (some (h2.size, 0))), (12, .slice p0.r p0.n), (13, .int .i64 ((p0.n : Nat) : Int)), (14, .int .i64 x2), (29, .int .i64 x6)] H (fun fr => by kernel_rfl) (fun fr => .of (s_ld (by kernel_rfl) (ldI_eq hx))) ?_
            intro fr t H
            refine at_seg [(2, []), (3, [])] [(1, .str p1), (2, .slice p2.r p2.n), (7, .ptr (some (h.size, 0))), (9, .ptr (some (h2.size, 0))), (12, .slice p0.r p0.n), (13, .int .i64 ((p0.n : Nat) : Int)), (14, .int .i64 x2), (31, .bool (decide (x6 ≥ (0 : Int))))] H (noU_all rfl) (fun fr => by kernel_rfl) ?_
            intro fr H
            obtain ⟨x7, ho, hm⟩ := bind_some hm
            refine at_cut [(4, []), (5, []), (6, []), (7, []), (8, []), (9, [])] (fun fr' h' => h4 = h' ∧ Has fr' 70 [(1, .str p1), (2, .slice p2.r p2.n), (7, .ptr (some (h.size, 0))), (9, .ptr (some (h2.size, 0))), (12, .slice p0.r p0.n), (13, .int .i64 ((p0.n : Nat) : Int)), (14, .int .i64 x2), (37, .bool x7)]) ?_ ?_
            · rcases iteB_some ho with ⟨hb, hm⟩ | ⟨hb, hm⟩
              · replace H := H.know 31 hb (by kernel_rfl)
                refine at_seg [(4, [])] [(1, .str p1), (2, .slice p2.r p2.n), (7, .ptr (some (h.size, 0))), (9, .ptr (some (h2.size, 0))), (12, .slice p0.r p0.n), (13, .int .i64 ((p0.n : Nat) : Int)), (14, .int .i64 x2), (31, .bool true), (32, .ptr (some (h2.size, 1)))] H (noU_all rfl) (fun fr => by kernel_rfl) ?_
                intro fr H
                obtain ⟨x8, hx, hm⟩ := bind_some hm
                refine at_step (v := .int .i64 x8) (h1 := h4) [(1, .str p1), (2, .slice p2.r p2.n), (7, .ptr (some (h.size, 0))), (9, .ptr (some (h2.size, 0))), (12, .slice p0.r p0.n), (13, .int .i64 ((p0.n : Nat) : Int)), (14, .int .i64 x2), (31, .bool true), (33, .int .i64 x8)] H (fun fr => by kernel_rfl) (fun fr => .of (s_ld (by kernel_rfl) (ldI_eq hx))) ?_
                intro fr t H
                refine at_seg [(6, []), (7, []), (8, []), (9, [])] [(1, .str p1), (2, .slice p2.r p2.n), (7, .ptr (some (h.size, 0))), (9, .ptr (some (h2.size, 0))), (12, .slice p0.r p0.n), (13, .int .i64 ((p0.n : Nat) : Int)), (14, .int .i64 x2), (37, .bool (decide (x8 < ((p2.n : Nat) : Int))))] H (noU_all rfl) (fun fr => by kernel_rfl) ?_
                intro fr H
                have e1 := Option.some.inj hm
                subst e1
                exact at_nil ⟨rfl, H.less _ (fun fr => by kernel_rfl)⟩
              · replace H := H.know 31 hb (by kernel_rfl)
                refine at_seg [(4, []), (5, []), (6, []), (7, []), (8, []), (9, [])] [(1, .str p1), (2, .slice p2.r p2.n), (7, .ptr (some (h.size, 0))), (9, .ptr (some (h2.size, 0))), (12, .slice p0.r p0.n), (13, .int .i64 ((p0.n : Nat) : Int)), (14, .int .i64 x2), (37, .bool false)] H (noU_all rfl) (fun fr => by kernel_rfl) ?_
                intro fr H
                have e1 := Option.some.inj hm
                subst e1
                exact at_nil ⟨rfl, H.less _ (fun fr => by kernel_rfl)⟩
            · intro t fr h' hK
              obtain ⟨e, H⟩ := hK
              subst e
              refine at_nil ?_
              show AW cfg 31 (⟨h.size, []⟩ : Gd) (right (left (right (right (right (left (right (right (left (left (right (right (left (left (right (left (right (right (bodyC cfg.P 31))))))))))))))))))) fr h4 _
              rcases iteB_some hm with ⟨hb, hm⟩ | ⟨hb, hm⟩
              · replace H := H.know 37 hb (by kernel_rfl)
                refine aw_true (x := .tmp 37) (by kernel_rfl) H (fun fr => by kernel_rfl) ?_
                refine aw_reg (id := 10) (n := 9) [(0, []), (1, []), (2, []), (3, []), (4, []), (5, []), (6, []), (7, []), (8, [])] (by kernel_rfl) (by kernel_rfl) ?_
                refine at_seg [(0, []), (1, []), (2, []), (3, [])] [(1, .str p1), (2, .slice p2.r p2.n), (7, .ptr (some (h.size, 0))), (12, .slice p0.r p0.n), (13, .int .i64 ((p0.n : Nat) : Int)), (14, .int .i64 x2), (38, .ptr (some (h.size, 0))), (39, .str p1), (40, .slice p2.r p2.n), (41, .ptr (some (h2.size, 1)))] H (noU_all rfl) (fun fr => by kernel_rfl) ?_
                intro fr H
                obtain ⟨x9, hx, hm⟩ := bind_some hm
                refine at_step (v := .int .i64 x9) (h1 := h4) [(1, .str p1), (2, .slice p2.r p2.n), (7, .ptr (some (h.size, 0))), (12, .slice p0.r p0.n), (13, .int .i64 ((p0.n : Nat) : Int)), (14, .int .i64 x2), (38, .ptr (some (h.size, 0))), (39, .str p1), (40, .slice p2.r p2.n), (42, .int .i64 x9)] H (fun fr => by kernel_rfl) (fun fr => .of (s_ld (by kernel_rfl) (ldI_eq hx))) ?_
                intro fr t H
                obtain ⟨a2, hx, hm⟩ := bind_some hm
                refine at_step (v := .ptr (some a2)) (h1 := h4) [(1, .str p1), (2, .slice p2.r p2.n), (7, .ptr (some (h.size, 0))), (12, .slice p0.r p0.n), (13, .int .i64 ((p0.n : Nat) : Int)), (14, .int .i64 x2), (38, .ptr (some (h.size, 0))), (39, .str p1), (43, .ptr (some (a2.1, a2.2)))] H (fun fr => by kernel_rfl) (fun fr => .of (s_ixL (s := p2) (by kernel_rfl) hx)) ?_
                intro fr t H
                obtain ⟨x10, hx, hm⟩ := bind_some hm
                refine at_step (v := .agg x10) (h1 := h4) [(1, .str p1), (2, .slice p2.r p2.n), (7, .ptr (some (h.size, 0))), (12, .slice p0.r p0.n), (13, .int .i64 ((p0.n : Nat) : Int)), (14, .int .i64 x2), (38, .ptr (some (h.size, 0))), (39, .str p1), (44, .agg x10)] H (fun fr => by kernel_rfl) (fun fr => .of (s_ldA (by kernel_rfl) hx)) ?_
                intro fr t H
                obtain ⟨x11, hx, hm⟩ := bind_some hm
                refine at_step (v := .str x11) (h1 := h4) [(1, .str p1), (2, .slice p2.r p2.n), (7, .ptr (some (h.size, 0))), (12, .slice p0.r p0.n), (13, .int .i64 ((p0.n : Nat) : Int)), (14, .int .i64 x2), (38, .ptr (some (h.size, 0))), (45, .str x11)] H (fun fr => by kernel_rfl) (fun fr => Steps.call (by kernel_rfl) (ok_groups_Text hx)) ?_
                intro fr t H
                obtain ⟨⟨⟨⟩, h6⟩, hx, hm⟩ := bind_some hm
                refine at_step (v := .tuple []) (h1 := h6) [(1, .str p1), (2, .slice p2.r p2.n), (7, .ptr (some (h.size, 0))), (12, .slice p0.r p0.n), (13, .int .i64 ((p0.n : Nat) : Int)), (14, .int .i64 x2)] H (fun fr => by kernel_rfl) (fun fr => Steps.call (by kernel_rfl) (ok_subst_turner_put hx)) ?_
                intro fr t H
                refine at_nil ?_
                exact Or.inl ⟨rfl, Option.some.inj hm, rfl, H.less _ (fun fr => by kernel_rfl)⟩
              · replace H := H.know 37 hb (by kernel_rfl)
                refine aw_false (x := .tmp 37) (by kernel_rfl) H (fun fr => by kernel_rfl) ?_
                refine aw_skip (by kernel_rfl) ?_
                exact Or.inl ⟨rfl, Option.some.inj hm, rfl, H.less _ (fun fr => by kernel_rfl)⟩
          · replace H := H.know 26 hb (by kernel_rfl)
            refine aw_false (x := .tmp 26) (by kernel_rfl) H (fun fr => by kernel_rfl) ?_
            refine aw_seq (by kernel_rfl) ?_
            obtain ⟨o3, ho, hm⟩ := bind_some hm
            refine aw_mono (Q' := fun e fr' h' => (∃ (x12 : Bool), e = .normal ∧ x12 = o3 ∧ h4 = h' ∧ Has fr' 70 [(1, .str p1), (2, .slice p2.r p2.n), (7, .ptr (some (h.size, 0))), (9, .ptr (some (h2.size, 0))), (12, .slice p0.r p0.n), (13, .int .i64 ((p0.n : Nat) : Int)), (14, .int .i64 x2), (19, .int .i64 x4), (47, .bool x12)]) ∨ False) ?_ ?_
            · replace hm := ho
              clear ho
              refine aw_seq (by kernel_rfl) ?_
              refine aw_reg (id := 11) (n := 2) [(0, []), (1, [])] (by kernel_rfl) (by kernel_rfl) ?_
              refine at_seg [(0, []), (1, [])] [(1, .str p1), (2, .slice p2.r p2.n), (7, .ptr (some (h.size, 0))), (9, .ptr (some (h2.size, 0))), (12, .slice p0.r p0.n), (13, .int .i64 ((p0.n : Nat) : Int)), (14, .int .i64 x2), (19, .int .i64 x4), (47, .bool (x4 == (2 : Int)))] H (noU_all rfl) (fun fr => by kernel_rfl) ?_
              intro fr H
              refine at_nil ?_
              show AW cfg 31 (⟨h.size, []⟩ : Gd) (right (left (right (right (right (right (left (right (right (left (left (right (right (left (left (right (left (right (right (bodyC cfg.P 31)))))))))))))))))))) fr h4 _
              rcases iteB_some hm with ⟨hb, hm⟩ | ⟨hb, hm⟩
              · replace H := H.know 47 hb (by kernel_rfl)
                refine aw_true (x := .tmp 47) (by kernel_rfl) H (fun fr => by kernel_rfl) ?_
                refine aw_skip (by kernel_rfl) ?_
                exact Or.inl ⟨true, rfl, Option.some.inj hm, rfl, H.less _ (fun fr => by kernel_rfl)⟩
              · replace H := H.know 47 hb (by kernel_rfl)
                refine aw_false (x := .tmp 47) (by kernel_rfl) H (fun fr => by kernel_rfl) ?_
                refine aw_seq (by kernel_rfl) ?_
                refine aw_reg (id := 12) (n := 2) [(0, []), (1, [])] (by kernel_rfl) (by kernel_rfl) ?_
                refine at_seg [(0, []), (1, [])] [(1, .str p1), (2, .slice p2.r p2.n), (7, .ptr (some (h.size, 0))), (9, .ptr (some (h2.size, 0))), (12, .slice p0.r p0.n), (13, .int .i64 ((p0.n : Nat) : Int)), (14, .int .i64 x2), (19, .int .i64 x4), (47, .bool (x4 == (3 : Int)))] H (noU_all rfl) (fun fr => by kernel_rfl) ?_
                intro fr H
                refine at_nil ?_
                show AW cfg 31 (⟨h.size, []⟩ : Gd) (right (right (right (left (right (right (right (right (left (right (right (left (left (right (right (left (left (right (left (right (right (bodyC cfg.P 31)))))))))))))))))))))) fr h4 _
                rcases iteB_some hm with ⟨hb, hm⟩ | ⟨hb, hm⟩
                · replace H := H.know 47 hb (by kernel_rfl)
                  refine aw_true (x := .tmp 47) (by kernel_rfl) H (fun fr => by kernel_rfl) ?_
                  refine aw_skip (by kernel_rfl) ?_
                  exact Or.inl ⟨true, rfl, Option.some.inj hm, rfl, H.less _ (fun fr => by kernel_rfl)⟩
                · replace H := H.know 47 hb (by kernel_rfl)
                  refine aw_false (x := .tmp 47) (by kernel_rfl) H (fun fr => by kernel_rfl) ?_
                  refine aw_reg (id := 13) (n := 2) [(0, []), (1, [])] (by kernel_rfl) (by kernel_rfl) ?_
                  refine at_seg [(0, []), (1, [])] [(1, .str p1), (2, .slice p2.r p2.n), (7, .ptr (some (h.size, 0))), (9, .ptr (some (h2.size, 0))), (12, .slice p0.r p0.n), (13, .int .i64 ((p0.n : Nat) : Int)), (14, .int .i64 x2), (19, .int .i64 x4), (47, .bool (x4 == (4 : Int)))] H (noU_all rfl) (fun fr => by kernel_rfl) ?_
                  intro fr H
                  refine at_nil ?_
                  exact Or.inl ⟨x4 == (4 : Int), rfl, Option.some.inj hm, rfl, H.less _ (fun fr => by kernel_rfl)⟩
            · clear ho
              intro e fr hz hQ
              rcases hQ with ⟨x12, rfl, rfl, rfl, H⟩ | hF
              · skip
                show AW cfg 31 (⟨h.size, []⟩ : Gd) (right (right (right (right (right (left (right (right (left (left (right (right (left (left (right (left (right (right (bodyC cfg.P 31))))))))))))))))))) fr h4 _
                rcases iteB_some hm with ⟨hb, hm⟩ | ⟨hb, hm⟩
                · replace H := H.know 47 hb (by kernel_rfl)
                  refine aw_true (x := .tmp 47) (by kernel_rfl) H (fun fr => by kernel_rfl) ?_
                  refine aw_reg (id := 14) (n := 6) [(0, []), (1, []), (2, []), (3, []), (4, []), (5, [])] (by kernel_rfl) (by kernel_rfl) ?_
                  refine at_seg [(0, []), (1, [])] [(1, .str p1), (2, .slice p2.r p2.n), (7, .ptr (some (h.size, 0))), (12, .slice p0.r p0.n), (13, .int .i64 ((p0.n : Nat) : Int)), (14, .int .i64 x2), (51, .ptr (some (h.size, 0))), (52, .ptr (some (h2.size, 0)))] H (noU_all rfl) (fun fr => by kernel_rfl) ?_
                  intro fr H
                  obtain ⟨x13, hx, hm⟩ := bind_some hm
                  refine at_step (v := .int .i64 x13) (h1 := h4) [(1, .str p1), (2, .slice p2.r p2.n), (7, .ptr (some (h.size, 0))), (12, .slice p0.r p0.n), (13, .int .i64 ((p0.n : Nat) : Int)), (14, .int .i64 x2), (51, .ptr (some (h.size, 0))), (53, .int .i64 x13)] H (fun fr => by kernel_rfl) (fun fr => .of (s_ld (by kernel_rfl) (ldI_eq hx))) ?_
                  intro fr t H
                  refine at_seg [(3, []), (4, [])] [(1, .str p1), (2, .slice p2.r p2.n), (7, .ptr (some (h.size, 0))), (12, .slice p0.r p0.n), (13, .int .i64 ((p0.n : Nat) : Int)), (14, .int .i64 x2), (53, .int .i64 x13), (55, .ptr (some (h.size, 1)))] H (noU_all rfl) (fun fr => by kernel_rfl) ?_
                  intro fr H
                  obtain ⟨h7, hx, hm⟩ := bind_some hm
                  refine at_step (v := .tuple []) (h1 := h7) [(1, .str p1), (2, .slice p2.r p2.n), (7, .ptr (some (h.size, 0))), (12, .slice p0.r p0.n), (13, .int .i64 ((p0.n : Nat) : Int)), (14, .int .i64 x2)] H (fun fr => by kernel_rfl) (fun fr => .of (s_st (by kernel_rfl) rfl hx)) ?_
                  intro fr t H
                  refine at_nil ?_
                  exact Or.inl ⟨rfl, Option.some.inj hm, rfl, H.less _ (fun fr => by kernel_rfl)⟩
                · replace H := H.know 47 hb (by kernel_rfl)
                  refine aw_false (x := .tmp 47) (by kernel_rfl) H (fun fr => by kernel_rfl) ?_
                  refine aw_seq (by kernel_rfl) ?_
                  obtain ⟨o4, ho, hm⟩ := bind_some hm
                  refine aw_mono (Q' := fun e fr' h' => (∃ (x14 : Bool), e = .normal ∧ x14 = o4 ∧ h4 = h' ∧ Has fr' 70 [(1, .str p1), (2, .slice p2.r p2.n), (7, .ptr (some (h.size, 0))), (9, .ptr (some (h2.size, 0))), (12, .slice p0.r p0.n), (13, .int .i64 ((p0.n : Nat) : Int)), (14, .int .i64 x2), (56, .bool x14)]) ∨ False) ?_ ?_
                  · replace hm := ho
                    clear ho
                    refine aw_seq (by kernel_rfl) ?_
                    refine aw_reg (id := 15) (n := 2) [(0, []), (1, [])] (by kernel_rfl) (by kernel_rfl) ?_
                    refine at_seg [(0, []), (1, [])] [(1, .str p1), (2, .slice p2.r p2.n), (7, .ptr (some (h.size, 0))), (9, .ptr (some (h2.size, 0))), (12, .slice p0.r p0.n), (13, .int .i64 ((p0.n : Nat) : Int)), (14, .int .i64 x2), (19, .int .i64 x4), (56, .bool (x4 == (5 : Int)))] H (noU_all rfl) (fun fr => by kernel_rfl) ?_
                    intro fr H
                    refine at_nil ?_
                    show AW cfg 31 (⟨h.size, []⟩ : Gd) (right (left (right (right (right (right (right (right (left (right (right (left (left (right (right (left (left (right (left (right (right (bodyC cfg.P 31)))))))))))))))))))))) fr h4 _
                    rcases iteB_some hm with ⟨hb, hm⟩ | ⟨hb, hm⟩
                    · replace H := H.know 56 hb (by kernel_rfl)
                      refine aw_true (x := .tmp 56) (by kernel_rfl) H (fun fr => by kernel_rfl) ?_
                      refine aw_skip (by kernel_rfl) ?_
                      exact Or.inl ⟨true, rfl, Option.some.inj hm, rfl, H.less _ (fun fr => by kernel_rfl)⟩
                    · replace H := H.know 56 hb (by kernel_rfl)
                      refine aw_false (x := .tmp 56) (by kernel_rfl) H (fun fr => by kernel_rfl) ?_
                      refine aw_reg (id := 16) (n := 2) [(0, []), (1, [])] (by kernel_rfl) (by kernel_rfl) ?_
                      refine at_seg [(0, []), (1, [])] [(1, .str p1), (2, .slice p2.r p2.n), (7, .ptr (some (h.size, 0))), (9, .ptr (some (h2.size, 0))), (12, .slice p0.r p0.n), (13, .int .i64 ((p0.n : Nat) : Int)), (14, .int .i64 x2), (56, .bool (x4 == (6 : Int)))] H (noU_all rfl) (fun fr => by kernel_rfl) ?_
                      intro fr H
                      refine at_nil ?_
                      exact Or.inl ⟨x4 == (6 : Int), rfl, Option.some.inj hm, rfl, H.less _ (fun fr => by kernel_rfl)⟩
                  · clear ho
                    intro e fr hz hQ
                    rcases hQ with ⟨x14, rfl, rfl, rfl, H⟩ | hF
                    · skip
                      show AW cfg 31 (⟨h.size, []⟩ : Gd) (right (right (right (right (right (right (right (left (right (right (left (left (right (right (left (left (right (left (right (right (bodyC cfg.P 31))))))))))))))))))))) fr h4 _
                      rcases iteB_some hm with ⟨hb, hm⟩ | ⟨hb, hm⟩
                      · replace H := H.know 56 hb (by kernel_rfl)
                        refine aw_true (x := .tmp 56) (by kernel_rfl) H (fun fr => by kernel_rfl) ?_
                        refine aw_reg (id := 17) (n := 6) [(0, []), (1, []), (2, []), (3, []), (4, []), (5, [])] (by kernel_rfl) (by kernel_rfl) ?_
                        refine at_seg [(0, []), (1, [])] [(1, .str p1), (2, .slice p2.r p2.n), (7, .ptr (some (h.size, 0))), (12, .slice p0.r p0.n), (13, .int .i64 ((p0.n : Nat) : Int)), (14, .int .i64 x2), (59, .ptr (some (h.size, 0))), (60, .ptr (some (h2.size, 0)))] H (noU_all rfl) (fun fr => by kernel_rfl) ?_
                        intro fr H
                        obtain ⟨x15, hx, hm⟩ := bind_some hm
                        refine at_step (v := .int .i64 x15) (h1 := h4) [(1, .str p1), (2, .slice p2.r p2.n), (7, .ptr (some (h.size, 0))), (12, .slice p0.r p0.n), (13, .int .i64 ((p0.n : Nat) : Int)), (14, .int .i64 x2), (59, .ptr (some (h.size, 0))), (61, .int .i64 x15)] H (fun fr => by kernel_rfl) (fun fr => .of (s_ld (by kernel_rfl) (ldI_eq hx))) ?_
                        intro fr t H
                        refine at_seg [(3, []), (4, [])] [(1, .str p1), (2, .slice p2.r p2.n), (7, .ptr (some (h.size, 0))), (12, .slice p0.r p0.n), (13, .int .i64 ((p0.n : Nat) : Int)), (14, .int .i64 x2), (61, .int .i64 x15), (63, .ptr (some (h.size, 2)))] H (noU_all rfl) (fun fr => by kernel_rfl) ?_
                        intro fr H
                        obtain ⟨h8, hx, hm⟩ := bind_some hm
                        refine at_step (v := .tuple []) (h1 := h8) [(1, .str p1), (2, .slice p2.r p2.n), (7, .ptr (some (h.size, 0))), (12, .slice p0.r p0.n), (13, .int .i64 ((p0.n : Nat) : Int)), (14, .int .i64 x2)] H (fun fr => by kernel_rfl) (fun fr => .of (s_st (by kernel_rfl) rfl hx)) ?_
                        intro fr t H
                        refine at_nil ?_
                        exact Or.inl ⟨rfl, Option.some.inj hm, rfl, H.less _ (fun fr => by kernel_rfl)⟩
                      · replace H := H.know 56 hb (by kernel_rfl)
                        refine aw_false (x := .tmp 56) (by kernel_rfl) H (fun fr => by kernel_rfl) ?_
                        refine aw_skip (by kernel_rfl) ?_
                        exact Or.inl ⟨rfl, Option.some.inj hm, rfl, H.less _ (fun fr => by kernel_rfl)⟩
                    · exact hF.elim
              · exact hF.elim
      · clear ho
        intro e fr h9 hQ
        rcases hQ with ⟨rfl, rfl, _, H⟩ | hF
        · skip
          show AW cfg 31 (⟨h.size, []⟩ : Gd) (right (right (right (left (left (right (left (right (right (bodyC cfg.P 31)))))))))) fr h9 _
          refine aw_reg (id := 18) (n := 2) [(0, []), (1, [])] (by kernel_rfl) (by kernel_rfl) ?_
          refine at_seg [(0, []), (1, [])] [(1, .str p1), (2, .slice p2.r p2.n), (7, .ptr (some (h.size, 0))), (12, .slice p0.r p0.n), (13, .int .i64 ((p0.n : Nat) : Int)), (14, .int .i64 (IntKind.i64.wrap (x2 + (1 : Int))))] H (noU_all rfl) (fun fr => by kernel_rfl) ?_
          intro fr H
          refine at_nil ?_
          exact Exists.intro (IntKind.i64.wrap (x2 + (1 : Int)), h9) (And.intro (Option.some.inj hm).symm ⟨IntKind.i64.wrap (x2 + (1 : Int)), rfl, rfl, H.less _ (fun fr => by kernel_rfl)⟩)
        · exact hF.elim
    · replace H := H.know 15 hb (by kernel_rfl)
      refine aw_false (x := .tmp 15) (by kernel_rfl) H (fun fr => by kernel_rfl) ?_
      refine aw_exit (i := 0) (by kernel_rfl) ?_
      exact Exists.intro _ (And.intro (Option.some.inj hm).symm (fun e => Or.inl ⟨rfl, e, rfl, H.less _ (fun fr => by kernel_rfl)⟩))
  · clear ho
    intro e fr h10 hQ
    rcases hQ with ⟨rfl, rfl, _, H⟩ | hF
    · skip
      show AW cfg 31 (⟨h.size, []⟩ : Gd) (right (right (right (bodyC cfg.P 31)))) fr h10 _
      refine aw_seq (by kernel_rfl) ?_
      refine aw_reg (id := 19) (n := 6) [(0, []), (1, []), (2, []), (3, []), (4, []), (5, [])] (by kernel_rfl) (by kernel_rfl) ?_
      refine at_seg [(0, []), (1, []), (2, [])] [(67, .ptr (some (h.size, 0)))] H (noU_all rfl) (fun fr => by kernel_rfl) ?_
      intro fr H
      obtain ⟨x16, hx, hm⟩ := bind_some hm
      refine at_step (v := .slice x16.r x16.n) (h1 := h10) [(68, .slice x16.r x16.n)] H (fun fr => by kernel_rfl) (fun fr => .of (s_ld (by kernel_rfl) (ldL_eq hx))) ?_
      intro fr t H
      obtain ⟨x17, hx, hm⟩ := bind_some hm
      refine at_step (v := .str x17) (h1 := h10) [(69, .str x17)] H (fun fr => by kernel_rfl) (fun fr => .of (s_byL (s := x16) (by kernel_rfl) hx)) ?_
      intro fr t H
      refine at_seg [(5, [])] [(6, .str x17)] H (noU_all rfl) (fun fr => by kernel_rfl) ?_
      intro fr H
      refine at_nil ?_
      show AW cfg 31 (⟨h.size, []⟩ : Gd) (right (right (right (right (bodyC cfg.P 31))))) fr h10 _
      refine aw_ret (by kernel_rfl) ?_
      have e1 := Option.some.inj hm
      subst e1
      exact (doneE_of .ret H (fun fr => by kernel_rfl) (.inl rfl) : doneE cfg.P _ _ _ fr _)
    · exact hF.elim
end Go.Abs.L
