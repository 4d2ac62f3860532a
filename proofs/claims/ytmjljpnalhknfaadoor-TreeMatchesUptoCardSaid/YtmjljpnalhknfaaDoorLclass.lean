/-
  Models of functions of package class, and that the abstract run tells them. Written by lift.py.
-/
import Derived.Test.YtmjljpnalhknfaaDoorLCfg
namespace Go.Abs.L
open Go.Abs
set_option linter.unusedVariables false
/-! ### (boulter/class.Set).Has -/
noncomputable def M_class_Set_Has (h : AHeap) (p0 : List AVal) (p1 : Int) : Option (Bool) :=
 need (p0.all AVal.one) <| (some (h.push (.cells none 2 p0))).bind fun h1 => (ixA (h.size, 0) 4 1 (bShr .u8 p1 (6 : Int))).bind fun a1 => (ldI h1 (a1.1, a1.2) .u64).bind fun x1 => need (decide (0 ≤ (bAnd .u8 p1 (63 : Int)))) <| some ((bAnd .u64 (bShr .u64 x1 (bAnd .u8 p1 (63 : Int))) (1 : Int)) == (1 : Int))
theorem ok_class_Set_Has {g : Gd} {h : AHeap} {p0 : List AVal} {p1 : Int} {r0 : Bool} (hm : M_class_Set_Has h p0 p1 = some r0) : Runs cfg g h 22 [.agg p0, .int .u8 p1] (.bool r0) h := by
  refine runs2E (by kernel_rfl) (by kernel_rfl) (body_ofE (n := 14) (rs := [.tmp 4]) (by kernel_rfl) ?_)
  unfold M_class_Set_Has at hm
  refine start (n := 14) [(0, .agg p0), (1, .int .u8 p1)] (by kernel_rfl) (by kernel_rfl) ?_
  intro fr H
  refine aw_seq (by kernel_rfl) ?_
  refine aw_reg (id := 0) (n := 2) [(0, []), (1, [])] (by kernel_rfl) (by kernel_rfl) ?_
  obtain ⟨hb, hm⟩ := need_some hm
  obtain ⟨h1, hx, hm⟩ := bind_some hm
  refine at_step (v := .ptr (some (h.size, 0))) (h1 := h1) [(1, .int .u8 p1), (2, .ptr (some (h.size, 0)))] H (fun fr => by kernel_rfl) (fun fr => .of (s_boxG (by kernel_rfl) hb hx)) ?_
  intro fr t H
  refine at_seg [(1, [])] [(1, .int .u8 p1), (2, .ptr (some (h.size, 0)))] H (noU_all rfl) (fun fr => by kernel_rfl) ?_
  intro fr H
  refine at_nil ?_
  show AW cfg 22 (⟨h.size, []⟩ : Gd) (right (bodyC cfg.P 22)) fr h1 _
  refine aw_seq (by kernel_rfl) ?_
  refine aw_reg (id := 1) (n := 10) [(0, []), (1, []), (2, []), (3, []), (4, []), (5, []), (6, []), (7, []), (8, []), (9, [])] (by kernel_rfl) (by kernel_rfl) ?_
  refine at_seg [(0, []), (1, [])] [(1, .int .u8 p1), (2, .ptr (some (h.size, 0))), (6, .int .u8 (bShr .u8 p1 (6 : Int)))] H (noU_all rfl) (fun fr => by kernel_rfl) ?_
  intro fr H
  obtain ⟨a1, hx, hm⟩ := bind_some hm
  refine at_step (v := .ptr (some a1)) (h1 := h1) [(1, .int .u8 p1), (7, .ptr (some (a1.1, a1.2)))] H (fun fr => by kernel_rfl) (fun fr => .of (s_ixA (by kernel_rfl) hx)) ?_
  intro fr t H
  obtain ⟨x1, hx, hm⟩ := bind_some hm
  refine at_step (v := .int .u64 x1) (h1 := h1) [(1, .int .u8 p1), (8, .int .u64 x1)] H (fun fr => by kernel_rfl) (fun fr => .of (s_ld (by kernel_rfl) (ldI_eq hx))) ?_
  intro fr t H
  refine at_seg [(4, []), (5, [])] [(8, .int .u64 x1), (10, .int .u8 (bAnd .u8 p1 (63 : Int)))] H (noU_all rfl) (fun fr => by kernel_rfl) ?_
  intro fr H
  obtain ⟨hb, hm⟩ := need_some hm
  refine at_step (v := .int .u64 (bShr .u64 x1 (bAnd .u8 p1 (63 : Int)))) (h1 := h1) [(11, .int .u64 (bShr .u64 x1 (bAnd .u8 p1 (63 : Int))))] H (fun fr => by kernel_rfl) (fun fr => .of (s_shr (by kernel_rfl) hb)) ?_
  intro fr t H
  refine at_seg [(7, []), (8, []), (9, [])] [(4, .bool ((bAnd .u64 (bShr .u64 x1 (bAnd .u8 p1 (63 : Int))) (1 : Int)) == (1 : Int)))] H (noU_all rfl) (fun fr => by kernel_rfl) ?_
  intro fr H
  refine at_nil ?_
  show AW cfg 22 (⟨h.size, []⟩ : Gd) (right (right (bodyC cfg.P 22))) fr h1 _
  refine aw_ret (by kernel_rfl) ?_
  have e1 := Option.some.inj hm
  subst e1
  exact (doneE_of .ret H (fun fr => by kernel_rfl) (.inl rfl) : doneE cfg.P _ _ _ fr _)
/-! ### (boulter/class.Set).Bytes -/
noncomputable def M_class_Set_Bytes_L0 (h : AHeap) (s : Sl × Int × AHeap) : Option ((Sl × Int × AHeap) ⊕ ((Sl × AHeap))) :=
  match s with
  | (x4, x5, h2) => iteB (decide (x5 < (256 : Int))) (((ldA h2 (h.size, 0) 4).bind fun x7 => (M_class_Set_Has h2 x7 (IntKind.u8.wrap x5)).bind fun x8 => iteB x8 ((some (h2.push (.cells (some 5) 2 [.int .u8 (IntKind.u8.wrap x5)]))).bind fun h3 => (app 5 1 1 (⟨h.size, []⟩ : Gd) h3 x4 1 (.slice (some (h2.size, 0)) 1)).bind fun (x9, h4) => some (x9, h4)) (some (x4, h2)) : Option ((Sl × AHeap))).bind fun (x6, h5) => some (.inl (x6, IntKind.i64.wrap (x5 + (1 : Int)), h5))) (some (.inr (x4, h2)))
noncomputable def M_class_Set_Bytes (h : AHeap) (p0 : List AVal) : Option ((List UInt8)) :=
 need (p0.all AVal.one) <| (some (h.push (.cells none 2 p0))).bind fun h1 => (loop (M_class_Set_Bytes_L0 h) ((⟨none, 0⟩ : Sl), (0 : Int), h1)).bind fun (x3, h6) => (byL h6 x3).bind fun x10 => some x10
theorem ok_class_Set_Bytes {g : Gd} {h : AHeap} {p0 : List AVal} {r0 : List UInt8} (hm : M_class_Set_Bytes h p0 = some r0) : Runs cfg g h 10 [.agg p0] (.str r0) h := by
  refine runs2E (by kernel_rfl) (by kernel_rfl) (body_ofE (n := 20) (rs := [.tmp 2]) (by kernel_rfl) ?_)
  unfold M_class_Set_Bytes at hm
  refine start (n := 20) [(0, .agg p0)] (by kernel_rfl) (by kernel_rfl) ?_
  intro fr H
  refine aw_seq (by kernel_rfl) ?_
  refine aw_reg (id := 0) (n := 2) [(0, []), (1, [])] (by kernel_rfl) (by kernel_rfl) ?_
  obtain ⟨hb, hm⟩ := need_some hm
  obtain ⟨h1, hx, hm⟩ := bind_some hm
  refine at_step (v := .ptr (some (h.size, 0))) (h1 := h1) [(1, .ptr (some (h.size, 0)))] H (fun fr => by kernel_rfl) (fun fr => .of (s_boxG (by kernel_rfl) hb hx)) ?_
  intro fr t H
  refine at_seg [(1, [])] [(1, .ptr (some (h.size, 0)))] H (noU_all rfl) (fun fr => by kernel_rfl) ?_
  intro fr H
  refine at_nil ?_
  show AW cfg 10 (⟨h.size, []⟩ : Gd) (right (bodyC cfg.P 10)) fr h1 _
  refine aw_seq (by kernel_rfl) ?_
  refine aw_reg (id := 1) (n := 1) [(0, [])] (by kernel_rfl) (by kernel_rfl) ?_
  refine at_seg [(0, [])] [(1, .ptr (some (h.size, 0))), (3, .slice none 0)] H (noU_all rfl) (fun fr => by kernel_rfl) ?_
  intro fr H
  refine at_nil ?_
  show AW cfg 10 (⟨h.size, []⟩ : Gd) (right (right (bodyC cfg.P 10))) fr h1 _
  refine aw_seq (by kernel_rfl) ?_
  refine aw_seq (by kernel_rfl) ?_
  refine aw_reg (id := 2) (n := 1) [(0, [])] (by kernel_rfl) (by kernel_rfl) ?_
  refine at_seg [(0, [])] [(1, .ptr (some (h.size, 0))), (3, .slice none 0), (5, .int .i64 (0 : Int))] H (noU_all rfl) (fun fr => by kernel_rfl) ?_
  intro fr H
  refine at_nil ?_
  show AW cfg 10 (⟨h.size, []⟩ : Gd) (right (left (right (right (bodyC cfg.P 10))))) fr h1 _
  refine aw_block (id := 0) (by kernel_rfl) ?_
  obtain ⟨o1, ho, hm⟩ := bind_some hm
  refine aw_mono (Q' := fun e fr' h' => (∃ (x3 : Sl), e = .exit 0 ∧ (x3, h') = o1 ∧ h' = h' ∧ Has fr' 20 [(3, .slice x3.r x3.n)]) ∨ False) ?_ ?_
  · refine aw_loop (by kernel_rfl) (fun (s : Sl × Int × AHeap) fr' h' => ∃ (x4 : Sl) (x5 : Int), (x4, x5, h') = s ∧ h' = h' ∧ Has fr' 20 [(1, .ptr (some (h.size, 0))), (3, .slice x4.r x4.n), (5, .int .i64 x5)]) ho ⟨(⟨none, 0⟩ : Sl), (0 : Int), rfl, rfl, H.less _ (fun fr => by kernel_rfl)⟩ ?_
    clear ho hm H
    intro s q fr h2 hI hm
    obtain ⟨x4, x5, rfl, _, H⟩ := hI
    unfold M_class_Set_Bytes_L0 at hm
    refine aw_seq (by kernel_rfl) ?_
    refine aw_reg (id := 3) (n := 1) [(0, [])] (by kernel_rfl) (by kernel_rfl) ?_
    refine at_seg [(0, [])] [(1, .ptr (some (h.size, 0))), (3, .slice x4.r x4.n), (5, .int .i64 x5), (6, .bool (decide (x5 < (256 : Int))))] H (noU_all rfl) (fun fr => by kernel_rfl) ?_
    intro fr H
    refine at_nil ?_
    show AW cfg 10 (⟨h.size, []⟩ : Gd) (right (left (left (right (left (right (right (bodyC cfg.P 10)))))))) fr h2 _
    refine aw_seq (by kernel_rfl) ?_
    rcases iteB_some hm with ⟨hb, hm⟩ | ⟨hb, hm⟩
    · replace H := H.know 6 hb (by kernel_rfl)
      refine aw_true (x := .tmp 6) (by kernel_rfl) H (fun fr => by kernel_rfl) ?_
      refine aw_skip (by kernel_rfl) ?_
      show AW cfg 10 (⟨h.size, []⟩ : Gd) (right (right (left (left (right (left (right (right (bodyC cfg.P 10))))))))) fr h2 _
      refine aw_seq (by kernel_rfl) ?_
      obtain ⟨o2, ho, hm⟩ := bind_some hm
      refine aw_mono (Q' := fun e fr' h' => (∃ (x6 : Sl), e = .normal ∧ (x6, h') = o2 ∧ h' = h' ∧ Has fr' 20 [(1, .ptr (some (h.size, 0))), (3, .slice x6.r x6.n), (5, .int .i64 x5)]) ∨ False) ?_ ?_
      · replace hm := ho
        clear ho
        refine aw_block (id := 1) (by kernel_rfl) ?_
        refine aw_seq (by kernel_rfl) ?_
        refine aw_reg (id := 4) (n := 2) [(0, []), (1, [])] (by kernel_rfl) (by kernel_rfl) ?_
        refine at_seg [(0, []), (1, [])] [(1, .ptr (some (h.size, 0))), (3, .slice x4.r x4.n), (4, .int .i64 x5), (5, .int .i64 x5)] H (noU_all rfl) (fun fr => by kernel_rfl) ?_
        intro fr H
        refine at_nil ?_
        show AW cfg 10 (⟨h.size, []⟩ : Gd) (right (left (left (right (right (left (left (right (left (right (right (bodyC cfg.P 10)))))))))))) fr h2 _
        refine aw_seq (by kernel_rfl) ?_
        refine aw_reg (id := 5) (n := 4) [(0, []), (1, []), (2, []), (3, [])] (by kernel_rfl) (by kernel_rfl) ?_
        obtain ⟨x7, hx, hm⟩ := bind_some hm
        refine at_step (v := .agg x7) (h1 := h2) [(1, .ptr (some (h.size, 0))), (3, .slice x4.r x4.n), (4, .int .i64 x5), (5, .int .i64 x5), (8, .agg x7)] H (fun fr => by kernel_rfl) (fun fr => .of (s_ldA (by kernel_rfl) hx)) ?_
        intro fr t H
        refine at_seg [(1, []), (2, [])] [(1, .ptr (some (h.size, 0))), (3, .slice x4.r x4.n), (4, .int .i64 x5), (5, .int .i64 x5), (8, .agg x7), (10, .int .u8 (IntKind.u8.wrap x5))] H (noU_all rfl) (fun fr => by kernel_rfl) ?_
        intro fr H
        obtain ⟨x8, hx, hm⟩ := bind_some hm
        refine at_step (v := .bool x8) (h1 := h2) [(1, .ptr (some (h.size, 0))), (3, .slice x4.r x4.n), (4, .int .i64 x5), (5, .int .i64 x5), (11, .bool x8)] H (fun fr => by kernel_rfl) (fun fr => Steps.call (by kernel_rfl) (ok_class_Set_Has hx)) ?_
        intro fr t H
        refine at_nil ?_
        show AW cfg 10 (⟨h.size, []⟩ : Gd) (right (right (left (left (right (right (left (left (right (left (right (right (bodyC cfg.P 10))))))))))))) fr h2 _
        rcases iteB_some hm with ⟨hb, hm⟩ | ⟨hb, hm⟩
        · replace H := H.know 11 hb (by kernel_rfl)
          refine aw_true (x := .tmp 11) (by kernel_rfl) H (fun fr => by kernel_rfl) ?_
          refine aw_reg (id := 6) (n := 6) [(0, []), (1, []), (2, []), (3, []), (4, []), (5, [])] (by kernel_rfl) (by kernel_rfl) ?_
          refine at_seg [(0, []), (1, []), (2, [])] [(1, .ptr (some (h.size, 0))), (5, .int .i64 x5), (12, .slice x4.r x4.n), (14, .int .u8 (IntKind.u8.wrap x5))] H (noU_all rfl) (fun fr => by kernel_rfl) ?_
          intro fr H
          obtain ⟨h3, hx, hm⟩ := bind_some hm
          refine at_step (v := .slice (some (h2.size, 0)) 1) (h1 := h3) [(1, .ptr (some (h.size, 0))), (5, .int .i64 x5), (12, .slice x4.r x4.n), (15, .slice (some (h2.size, 0)) 1)] H (fun fr => by kernel_rfl) (fun fr => .of (s_n' (by kernel_rfl) hx)) ?_
          intro fr t H
          obtain ⟨⟨x9, h4⟩, hx, hm⟩ := bind_some hm
          refine at_step (v := .slice x9.r x9.n) (h1 := h4) [(1, .ptr (some (h.size, 0))), (5, .int .i64 x5), (16, .slice x9.r x9.n)] H (fun fr => by kernel_rfl) (fun fr => .of (s_app (s := x4) (by kernel_rfl) hx)) ?_
          intro fr t H
          refine at_seg [(5, [])] [(1, .ptr (some (h.size, 0))), (3, .slice x9.r x9.n), (5, .int .i64 x5)] H (noU_all rfl) (fun fr => by kernel_rfl) ?_
          intro fr H
          refine at_nil ?_
          exact Or.inl ⟨x9, rfl, Option.some.inj hm, rfl, H.less _ (fun fr => by kernel_rfl)⟩
        · replace H := H.know 11 hb (by kernel_rfl)
          refine aw_false (x := .tmp 11) (by kernel_rfl) H (fun fr => by kernel_rfl) ?_
          refine aw_skip (by kernel_rfl) ?_
          exact Or.inl ⟨x4, rfl, Option.some.inj hm, rfl, H.less _ (fun fr => by kernel_rfl)⟩
      · clear ho
        intro e fr h5 hQ
        rcases hQ with ⟨x6, rfl, rfl, _, H⟩ | hF
        · skip
          show AW cfg 10 (⟨h.size, []⟩ : Gd) (right (right (right (left (left (right (left (right (right (bodyC cfg.P 10)))))))))) fr h5 _
          refine aw_reg (id := 7) (n := 2) [(0, []), (1, [])] (by kernel_rfl) (by kernel_rfl) ?_
          refine at_seg [(0, []), (1, [])] [(1, .ptr (some (h.size, 0))), (3, .slice x6.r x6.n), (5, .int .i64 (IntKind.i64.wrap (x5 + (1 : Int))))] H (noU_all rfl) (fun fr => by kernel_rfl) ?_
          intro fr H
          refine at_nil ?_
          exact Exists.intro (x6, IntKind.i64.wrap (x5 + (1 : Int)), h5) (And.intro (Option.some.inj hm).symm ⟨x6, IntKind.i64.wrap (x5 + (1 : Int)), rfl, rfl, H.less _ (fun fr => by kernel_rfl)⟩)
        · exact hF.elim
    · replace H := H.know 6 hb (by kernel_rfl)
      refine aw_false (x := .tmp 6) (by kernel_rfl) H (fun fr => by kernel_rfl) ?_
      refine aw_exit (i := 0) (by kernel_rfl) ?_
      exact Exists.intro _ (And.intro (Option.some.inj hm).symm (fun e => Or.inl ⟨x4, rfl, e, rfl, H.less _ (fun fr => by kernel_rfl)⟩))
  · clear ho
    intro e fr h6 hQ
    rcases hQ with ⟨x3, rfl, rfl, _, H⟩ | hF
    · skip
      show AW cfg 10 (⟨h.size, []⟩ : Gd) (right (right (right (bodyC cfg.P 10)))) fr h6 _
      refine aw_seq (by kernel_rfl) ?_
      refine aw_reg (id := 8) (n := 3) [(0, []), (1, []), (2, [])] (by kernel_rfl) (by kernel_rfl) ?_
      refine at_seg [(0, [])] [(18, .slice x3.r x3.n)] H (noU_all rfl) (fun fr => by kernel_rfl) ?_
      intro fr H
      obtain ⟨x10, hx, hm⟩ := bind_some hm
      refine at_step (v := .str x10) (h1 := h6) [(19, .str x10)] H (fun fr => by kernel_rfl) (fun fr => .of (s_byL (s := x3) (by kernel_rfl) hx)) ?_
      intro fr t H
      refine at_seg [(2, [])] [(2, .str x10)] H (noU_all rfl) (fun fr => by kernel_rfl) ?_
      intro fr H
      refine at_nil ?_
      show AW cfg 10 (⟨h.size, []⟩ : Gd) (right (right (right (right (bodyC cfg.P 10))))) fr h6 _
      refine aw_ret (by kernel_rfl) ?_
      have e1 := Option.some.inj hm
      subst e1
      exact (doneE_of .ret H (fun fr => by kernel_rfl) (.inl rfl) : doneE cfg.P _ _ _ fr _)
    · exact hF.elim
/-! ### (boulter/class.Set).Fold -/
noncomputable def M_class_Set_Fold (g : Gd) (h : AHeap) (p0 : List AVal) : Option (((List AVal)) × AHeap) :=
 need (p0.all AVal.one) <| (some (h.push (.cells none 2 p0))).bind fun h1 => (some (h1.push (.cells none 2 [.int .u64 (0 : Int), .int .u64 (0 : Int), .int .u64 (0 : Int), .int .u64 (0 : Int)]))).bind fun h2 => (ixA (h.size, 0) 4 1 (1 : Int)).bind fun a1 => (ldI h2 (a1.1, a1.2) .u64).bind fun x1 => (ixA (h.size, 0) 4 1 (1 : Int)).bind fun a2 => (ldI h2 (a2.1, a2.2) .u64).bind fun x2 => (ixA (h.size, 0) 4 1 (1 : Int)).bind fun a3 => (ldI h2 (a3.1, a3.2) .u64).bind fun x3 => (ixA (h.size, 0) 4 1 (1 : Int)).bind fun a4 => (st g h2 (a4.1, a4.2) [.int .u64 (bOr .u64 x1 (bOr .u64 (bShl .u64 (bAnd .u64 x2 (134217726 : Int)) (32 : Int)) (bShr .u64 (bAnd .u64 x3 (576460743713488896 : Int)) (32 : Int))))]).bind fun h3 => (ldA h3 (h.size, 0) 4).bind fun x4 => (stG 4 g h3 (h1.size, 0) x4).bind fun h4 => (ldA h4 (h1.size, 0) 4).bind fun x5 => some (x5, h4)
theorem ok_class_Set_Fold {g : Gd} {h h' : AHeap} {p0 : List AVal} {r0 : List AVal} (hm : M_class_Set_Fold g h p0 = some (r0, h')) : Runs cfg g h 26 [.agg p0] (.agg r0) h' := by
  refine runs1 (by kernel_rfl) (body_of (n := 17) (rs := [.cell 2 28]) (by kernel_rfl) ?_)
  unfold M_class_Set_Fold at hm
  refine start (n := 17) [(0, .agg p0)] (by kernel_rfl) (by kernel_rfl) ?_
  intro fr H
  refine aw_seq (by kernel_rfl) ?_
  refine aw_reg (id := 0) (n := 2) [(0, []), (1, [])] (by kernel_rfl) (by kernel_rfl) ?_
  obtain ⟨hb, hm⟩ := need_some hm
  obtain ⟨h1, hx, hm⟩ := bind_some hm
  refine at_step (v := .ptr (some (h.size, 0))) (h1 := h1) [(1, .ptr (some (h.size, 0)))] H (fun fr => by kernel_rfl) (fun fr => .of (s_boxG (by kernel_rfl) hb hx)) ?_
  intro fr t H
  obtain ⟨h2, hx, hm⟩ := bind_some hm
  refine at_step (v := .ptr (some (h1.size, 0))) (h1 := h2) [(1, .ptr (some (h.size, 0))), (2, .ptr (some (h1.size, 0)))] H (fun fr => by kernel_rfl) (fun fr => .of (s_n' (by kernel_rfl) hx)) ?_
  intro fr t H
  refine at_nil ?_
  show AW cfg 26 g (right (bodyC cfg.P 26)) fr h2 _
  refine aw_seq (by kernel_rfl) ?_
  refine aw_reg (id := 1) (n := 14) [(0, []), (1, []), (2, []), (3, []), (4, []), (5, []), (6, []), (7, []), (8, []), (9, []), (10, []), (11, []), (12, []), (13, [])] (by kernel_rfl) (by kernel_rfl) ?_
  obtain ⟨a1, hx, hm⟩ := bind_some hm
  refine at_step (v := .ptr (some a1)) (h1 := h2) [(1, .ptr (some (h.size, 0))), (2, .ptr (some (h1.size, 0))), (3, .ptr (some (a1.1, a1.2)))] H (fun fr => by kernel_rfl) (fun fr => .of (s_ixA (by kernel_rfl) hx)) ?_
  intro fr t H
  obtain ⟨x1, hx, hm⟩ := bind_some hm
  refine at_step (v := .int .u64 x1) (h1 := h2) [(1, .ptr (some (h.size, 0))), (2, .ptr (some (h1.size, 0))), (4, .int .u64 x1)] H (fun fr => by kernel_rfl) (fun fr => .of (s_ld (by kernel_rfl) (ldI_eq hx))) ?_
  intro fr t H
  obtain ⟨a2, hx, hm⟩ := bind_some hm
  refine at_step (v := .ptr (some a2)) (h1 := h2) [(1, .ptr (some (h.size, 0))), (2, .ptr (some (h1.size, 0))), (4, .int .u64 x1), (5, .ptr (some (a2.1, a2.2)))] H (fun fr => by kernel_rfl) (fun fr => .of (s_ixA (by kernel_rfl) hx)) ?_
  intro fr t H
  obtain ⟨x2, hx, hm⟩ := bind_some hm
  refine at_step (v := .int .u64 x2) (h1 := h2) [(1, .ptr (some (h.size, 0))), (2, .ptr (some (h1.size, 0))), (4, .int .u64 x1), (6, .int .u64 x2)] H (fun fr => by kernel_rfl) (fun fr => .of (s_ld (by kernel_rfl) (ldI_eq hx))) ?_
  intro fr t H
  refine at_seg [(4, []), (5, [])] [(1, .ptr (some (h.size, 0))), (2, .ptr (some (h1.size, 0))), (4, .int .u64 x1), (8, .int .u64 (bShl .u64 (bAnd .u64 x2 (134217726 : Int)) (32 : Int)))] H (noU_all rfl) (fun fr => by kernel_rfl) ?_
  intro fr H
  obtain ⟨a3, hx, hm⟩ := bind_some hm
  refine at_step (v := .ptr (some a3)) (h1 := h2) [(1, .ptr (some (h.size, 0))), (2, .ptr (some (h1.size, 0))), (4, .int .u64 x1), (8, .int .u64 (bShl .u64 (bAnd .u64 x2 (134217726 : Int)) (32 : Int))), (9, .ptr (some (a3.1, a3.2)))] H (fun fr => by kernel_rfl) (fun fr => .of (s_ixA (by kernel_rfl) hx)) ?_
  intro fr t H
  obtain ⟨x3, hx, hm⟩ := bind_some hm
  refine at_step (v := .int .u64 x3) (h1 := h2) [(1, .ptr (some (h.size, 0))), (2, .ptr (some (h1.size, 0))), (4, .int .u64 x1), (8, .int .u64 (bShl .u64 (bAnd .u64 x2 (134217726 : Int)) (32 : Int))), (10, .int .u64 x3)] H (fun fr => by kernel_rfl) (fun fr => .of (s_ld (by kernel_rfl) (ldI_eq hx))) ?_
  intro fr t H
  refine at_seg [(8, []), (9, []), (10, []), (11, [])] [(1, .ptr (some (h.size, 0))), (2, .ptr (some (h1.size, 0))), (14, .int .u64 (bOr .u64 x1 (bOr .u64 (bShl .u64 (bAnd .u64 x2 (134217726 : Int)) (32 : Int)) (bShr .u64 (bAnd .u64 x3 (576460743713488896 : Int)) (32 : Int)))))] H (noU_all rfl) (fun fr => by kernel_rfl) ?_
  intro fr H
  obtain ⟨a4, hx, hm⟩ := bind_some hm
  refine at_step (v := .ptr (some a4)) (h1 := h2) [(1, .ptr (some (h.size, 0))), (2, .ptr (some (h1.size, 0))), (14, .int .u64 (bOr .u64 x1 (bOr .u64 (bShl .u64 (bAnd .u64 x2 (134217726 : Int)) (32 : Int)) (bShr .u64 (bAnd .u64 x3 (576460743713488896 : Int)) (32 : Int))))), (15, .ptr (some (a4.1, a4.2)))] H (fun fr => by kernel_rfl) (fun fr => .of (s_ixA (by kernel_rfl) hx)) ?_
  intro fr t H
  obtain ⟨h3, hx, hm⟩ := bind_some hm
  refine at_step (v := .tuple []) (h1 := h3) [(1, .ptr (some (h.size, 0))), (2, .ptr (some (h1.size, 0)))] H (fun fr => by kernel_rfl) (fun fr => .of (s_st (by kernel_rfl) rfl hx)) ?_
  intro fr t H
  refine at_nil ?_
  show AW cfg 26 g (right (right (bodyC cfg.P 26))) fr h3 _
  refine aw_seq (by kernel_rfl) ?_
  refine aw_reg (id := 2) (n := 2) [(0, []), (1, [])] (by kernel_rfl) (by kernel_rfl) ?_
  obtain ⟨x4, hx, hm⟩ := bind_some hm
  refine at_step (v := .agg x4) (h1 := h3) [(2, .ptr (some (h1.size, 0))), (16, .agg x4)] H (fun fr => by kernel_rfl) (fun fr => .of (s_ldA (by kernel_rfl) hx)) ?_
  intro fr t H
  obtain ⟨h4, hx, hm⟩ := bind_some hm
  refine at_step (v := .tuple []) (h1 := h4) [(2, .ptr (some (h1.size, 0)))] H (fun fr => by kernel_rfl) (fun fr => .of (s_stG (by kernel_rfl) hx)) ?_
  intro fr t H
  refine at_nil ?_
  show AW cfg 26 g (right (right (right (bodyC cfg.P 26)))) fr h4 _
  refine aw_ret (by kernel_rfl) ?_
  obtain ⟨x5, hy0, hm⟩ := bind_some hm
  obtain ⟨e1, e2⟩ := inj2 hm
  subst e2
  subst e1
  exact (done_ret H (fun fr => resL_one (.cell (by kernel_rfl) (load_ldA (by kernel_rfl) (by kernel_rfl) hy0) .nil)) rfl : doneQ cfg.P _ _ _ _ fr _)
/-! ### boulter/class.Other -/
noncomputable def M_class_Other (h : AHeap) (p0 : Int) : Option (Int) :=
 iteB ((decide ((bOr .u8 p0 (32 : Int)) ≥ (97 : Int))) && (decide ((bOr .u8 p0 (32 : Int)) ≤ (122 : Int)))) (some (bXor .u8 p0 (32 : Int))) (some p0)
theorem ok_class_Other {g : Gd} {h : AHeap} {p0 : Int} {r0 : Int} (hm : M_class_Other h p0 = some r0) : Runs cfg g h 18 [.int .u8 p0] (.int .u8 r0) h := by
  refine runs2E (by kernel_rfl) (by kernel_rfl) (body_ofE (n := 15) (rs := [.tmp 2]) (by kernel_rfl) ?_)
  unfold M_class_Other at hm
  refine start (n := 15) [(0, .int .u8 p0)] (by kernel_rfl) (by kernel_rfl) ?_
  intro fr H
  refine aw_seq (by kernel_rfl) ?_
  refine aw_reg (id := 0) (n := 1) [(0, [])] (by kernel_rfl) (by kernel_rfl) ?_
  refine at_seg [(0, [])] [(0, .int .u8 p0)] H (noU_all rfl) (fun fr => by kernel_rfl) ?_
  intro fr H
  refine at_nil ?_
  show AW cfg 18 (⟨h.size, []⟩ : Gd) (right (bodyC cfg.P 18)) fr h _
  refine aw_seq (by kernel_rfl) ?_
  refine aw_seq (by kernel_rfl) ?_
  refine aw_reg (id := 1) (n := 3) [(0, []), (1, []), (2, [])] (by kernel_rfl) (by kernel_rfl) ?_
  refine at_seg [(0, []), (1, []), (2, [])] [(0, .int .u8 p0), (3, .int .u8 (bOr .u8 p0 (32 : Int)))] H (noU_all rfl) (fun fr => by kernel_rfl) ?_
  intro fr H
  refine at_nil ?_
  show AW cfg 18 (⟨h.size, []⟩ : Gd) (right (left (right (bodyC cfg.P 18)))) fr h _
  refine aw_seq (by kernel_rfl) ?_
  refine aw_reg (id := 2) (n := 6) [(0, []), (1, []), (2, []), (3, []), (4, []), (5, [])] (by kernel_rfl) (by kernel_rfl) ?_
  refine at_seg [(0, []), (1, []), (2, [])] [(0, .int .u8 p0), (3, .int .u8 (bOr .u8 p0 (32 : Int))), (8, .bool (decide ((bOr .u8 p0 (32 : Int)) ≥ (97 : Int))))] H (noU_all rfl) (fun fr => by kernel_rfl) ?_
  intro fr H
  refine at_cut [(3, []), (4, []), (5, [])] (fun fr' h' => h = h' ∧ Has fr' 15 [(0, .int .u8 p0), (11, .bool ((decide ((bOr .u8 p0 (32 : Int)) ≥ (97 : Int))) && (decide ((bOr .u8 p0 (32 : Int)) ≤ (122 : Int)))))]) ?_ ?_
  · cases hb : (decide ((bOr .u8 p0 (32 : Int)) ≥ (97 : Int)) : Bool) with
    | true =>
      replace H := H.know 8 hb (by kernel_rfl)
      refine at_seg [(3, []), (4, []), (5, [])] [(0, .int .u8 p0), (11, .bool (decide ((bOr .u8 p0 (32 : Int)) ≤ (122 : Int))))] H (noU_all rfl) (fun fr => by kernel_rfl) ?_
      intro fr H
      exact at_nil ⟨rfl, by first | exact H.less _ (fun fr => by rfl) | exact H.less _ (fun fr => by rw [hb]; rfl)⟩
    | false =>
      replace H := H.know 8 hb (by kernel_rfl)
      refine at_seg [(3, []), (4, []), (5, [])] [(0, .int .u8 p0), (11, .bool false)] H (noU_all rfl) (fun fr => by kernel_rfl) ?_
      intro fr H
      exact at_nil ⟨rfl, by first | exact H.less _ (fun fr => by rfl) | exact H.less _ (fun fr => by rw [hb]; rfl)⟩
  · intro t fr h' hK
    obtain ⟨e, H⟩ := hK
    subst e
    refine at_nil ?_
    show AW cfg 18 (⟨h.size, []⟩ : Gd) (right (right (left (right (bodyC cfg.P 18))))) fr h _
    rcases iteB_some hm with ⟨hb, hm⟩ | ⟨hb, hm⟩
    · replace H := H.know 11 hb (by kernel_rfl)
      refine aw_true (x := .tmp 11) (by kernel_rfl) H (fun fr => by kernel_rfl) ?_
      refine aw_seq (by kernel_rfl) ?_
      refine aw_reg (id := 3) (n := 3) [(0, []), (1, []), (2, [])] (by kernel_rfl) (by kernel_rfl) ?_
      refine at_seg [(0, []), (1, []), (2, [])] [(2, .int .u8 (bXor .u8 p0 (32 : Int)))] H (noU_all rfl) (fun fr => by kernel_rfl) ?_
      intro fr H
      refine at_nil ?_
      show AW cfg 18 (⟨h.size, []⟩ : Gd) (right (left (right (right (left (right (bodyC cfg.P 18))))))) fr h _
      refine aw_ret (by kernel_rfl) ?_
      have e1 := Option.some.inj hm
      subst e1
      exact (doneE_of .ret H (fun fr => by kernel_rfl) (.inl rfl) : doneE cfg.P _ _ _ fr _)
    · replace H := H.know 11 hb (by kernel_rfl)
      refine aw_false (x := .tmp 11) (by kernel_rfl) H (fun fr => by kernel_rfl) ?_
      refine aw_skip (by kernel_rfl) ?_
      show AW cfg 18 (⟨h.size, []⟩ : Gd) (right (right (bodyC cfg.P 18))) fr h _
      refine aw_seq (by kernel_rfl) ?_
      refine aw_reg (id := 4) (n := 2) [(0, []), (1, [])] (by kernel_rfl) (by kernel_rfl) ?_
      refine at_seg [(0, []), (1, [])] [(2, .int .u8 p0)] H (noU_all rfl) (fun fr => by kernel_rfl) ?_
      intro fr H
      refine at_nil ?_
      show AW cfg 18 (⟨h.size, []⟩ : Gd) (right (right (right (bodyC cfg.P 18)))) fr h _
      refine aw_ret (by kernel_rfl) ?_
      have e1 := Option.some.inj hm
      subst e1
      exact (doneE_of .ret H (fun fr => by kernel_rfl) (.inl rfl) : doneE cfg.P _ _ _ fr _)
end Go.Abs.L
