/-
  Models of functions of package sums, and that the abstract run tells them. Written by lift.py.
-/
import Derived.Test.YtklabpnclemmoaaLCfg
import Derived.Test.YtklabpnclemmoaaLoctal
namespace Go.Abs.L
open Go.Abs
set_option linter.unusedVariables false
/-! ### boulter/sums.both -/
noncomputable def M_sums_both_L0 (g : Gd) (p0 : List UInt8) (h1 : AHeap) (s : Int × AHeap) : Option ((Int × AHeap) ⊕ ((AHeap))) :=
  match s with
  | (x2, h3) => iteB (decide (x2 < (p0.length : Int))) ((ixS p0 x2).bind fun x3 => (iteB ((decide (x2 ≥ (148 : Int))) && (decide (x2 < (156 : Int)))) (some (32 : Int)) (some x3) : Option ((Int))).bind fun x4 => (ixA (h1.size, 0) 2 1 (0 : Int)).bind fun a1 => (ldI h3 (a1.1, a1.2) .i64).bind fun x5 => (ixA (h1.size, 0) 2 1 (0 : Int)).bind fun a2 => (st g h3 (a2.1, a2.2) [.int .i64 (IntKind.i64.wrap (x5 + (IntKind.i64.wrap x4)))]).bind fun h4 => (ixA (h1.size, 0) 2 1 (1 : Int)).bind fun a3 => (ldI h4 (a3.1, a3.2) .i64).bind fun x6 => (ixA (h1.size, 0) 2 1 (1 : Int)).bind fun a4 => (st g h4 (a4.1, a4.2) [.int .i64 (IntKind.i64.wrap (x6 + (IntKind.i64.wrap (IntKind.i8.wrap x4))))]).bind fun h5 => some (.inl (IntKind.i64.wrap (x2 + (1 : Int)), h5))) (some (.inr h3))
noncomputable def M_sums_both (g : Gd) (h : AHeap) (p0 : List UInt8) : Option (((List AVal)) × AHeap) :=
 (some (h.push (.cells none 2 [.int .i64 (0 : Int), .int .i64 (0 : Int)]))).bind fun h1 => (some (h1.push (.cells none 2 [.int .i64 (0 : Int), .int .i64 (0 : Int)]))).bind fun h2 => (loop (M_sums_both_L0 g p0 h1) ((0 : Int), h2)).bind fun h6 => (ldA h6 (h1.size, 0) 2).bind fun x7 => (stG 2 g h6 (h.size, 0) x7).bind fun h7 => (ldA h7 (h.size, 0) 2).bind fun x8 => some (x8, h7)
theorem ok_sums_both {g : Gd} {h h' : AHeap} {p0 : List UInt8} {r0 : List AVal} (hm : M_sums_both g h p0 = some (r0, h')) : Runs cfg g h 82 [.str p0] (.agg r0) h' := by
  refine runs1 (by kernel_rfl) (body_of (n := 35) (rs := [.cell 2 113]) (by kernel_rfl) ?_)
  unfold M_sums_both at hm
  refine start (n := 35) [(0, .str p0)] (by kernel_rfl) (by kernel_rfl) ?_
  intro fr H
  refine aw_seq (by kernel_rfl) ?_
  refine aw_reg (id := 0) (n := 1) [(0, [])] (by kernel_rfl) (by kernel_rfl) ?_
  obtain ⟨h1, hx, hm⟩ := bind_some hm
  refine at_step (v := .ptr (some (h.size, 0))) (h1 := h1) [(0, .str p0), (2, .ptr (some (h.size, 0)))] H (fun fr => by kernel_rfl) (fun fr => .of (s_n' (by kernel_rfl) hx)) ?_
  intro fr t H
  refine at_nil ?_
  show AW cfg 82 g (right (bodyC cfg.P 82)) fr h1 _
  refine aw_seq (by kernel_rfl) ?_
  refine aw_reg (id := 1) (n := 1) [(0, [])] (by kernel_rfl) (by kernel_rfl) ?_
  obtain ⟨h2, hx, hm⟩ := bind_some hm
  refine at_step (v := .ptr (some (h1.size, 0))) (h1 := h2) [(0, .str p0), (2, .ptr (some (h.size, 0))), (3, .ptr (some (h1.size, 0)))] H (fun fr => by kernel_rfl) (fun fr => .of (s_n' (by kernel_rfl) hx)) ?_
  intro fr t H
  refine at_nil ?_
  show AW cfg 82 g (right (right (bodyC cfg.P 82))) fr h2 _
  refine aw_seq (by kernel_rfl) ?_
  refine aw_seq (by kernel_rfl) ?_
  refine aw_reg (id := 2) (n := 3) [(0, []), (1, []), (2, [])] (by kernel_rfl) (by kernel_rfl) ?_
  refine at_seg [(0, []), (1, []), (2, [])] [(0, .str p0), (2, .ptr (some (h.size, 0))), (3, .ptr (some (h1.size, 0))), (7, .int .i64 (p0.length : Int)), (8, .int .i64 (0 : Int))] H (noU_all rfl) (fun fr => by kernel_rfl) ?_
  intro fr H
  refine at_nil ?_
  show AW cfg 82 g (right (left (right (right (bodyC cfg.P 82))))) fr h2 _
  refine aw_block (id := 0) (by kernel_rfl) ?_
  obtain ⟨o1, ho, hm⟩ := bind_some hm
  refine aw_mono (Q' := fun e fr' h' => (e = .exit 0 ∧ h' = o1 ∧ h' = h' ∧ Has fr' 35 [(2, .ptr (some (h.size, 0))), (3, .ptr (some (h1.size, 0)))]) ∨ False) ?_ ?_
  · refine aw_loop (by kernel_rfl) (fun (s : Int × AHeap) fr' h' => ∃ (x2 : Int), (x2, h') = s ∧ h' = h' ∧ Has fr' 35 [(0, .str p0), (2, .ptr (some (h.size, 0))), (3, .ptr (some (h1.size, 0))), (7, .int .i64 (p0.length : Int)), (8, .int .i64 x2)]) ho ⟨(0 : Int), rfl, rfl, H.less _ (fun fr => by kernel_rfl)⟩ ?_
    clear ho hm H
    intro s q fr h3 hI hm
    obtain ⟨x2, rfl, _, H⟩ := hI
    unfold M_sums_both_L0 at hm
    refine aw_seq (by kernel_rfl) ?_
    refine aw_reg (id := 3) (n := 1) [(0, [])] (by kernel_rfl) (by kernel_rfl) ?_
    refine at_seg [(0, [])] [(0, .str p0), (2, .ptr (some (h.size, 0))), (3, .ptr (some (h1.size, 0))), (7, .int .i64 (p0.length : Int)), (8, .int .i64 x2), (9, .bool (decide (x2 < (p0.length : Int))))] H (noU_all rfl) (fun fr => by kernel_rfl) ?_
    intro fr H
    refine at_nil ?_
    show AW cfg 82 g (right (left (left (right (left (right (right (bodyC cfg.P 82)))))))) fr h3 _
    refine aw_seq (by kernel_rfl) ?_
    rcases iteB_some hm with ⟨hb, hm⟩ | ⟨hb, hm⟩
    · replace H := H.know 9 hb (by kernel_rfl)
      refine aw_true (x := .tmp 9) (by kernel_rfl) H (fun fr => by kernel_rfl) ?_
      refine aw_skip (by kernel_rfl) ?_
      show AW cfg 82 g (right (right (left (left (right (left (right (right (bodyC cfg.P 82))))))))) fr h3 _
      refine aw_seq (by kernel_rfl) ?_
      refine aw_block (id := 1) (by kernel_rfl) ?_
      refine aw_seq (by kernel_rfl) ?_
      refine aw_reg (id := 4) (n := 2) [(0, []), (1, [])] (by kernel_rfl) (by kernel_rfl) ?_
      refine at_seg [(0, []), (1, [])] [(0, .str p0), (2, .ptr (some (h.size, 0))), (3, .ptr (some (h1.size, 0))), (4, .int .i64 x2), (7, .int .i64 (p0.length : Int)), (8, .int .i64 x2)] H (noU_all rfl) (fun fr => by kernel_rfl) ?_
      intro fr H
      refine at_nil ?_
      show AW cfg 82 g (right (left (left (right (right (left (left (right (left (right (right (bodyC cfg.P 82)))))))))))) fr h3 _
      refine aw_seq (by kernel_rfl) ?_
      refine aw_reg (id := 5) (n := 4) [(0, []), (1, []), (2, []), (3, [])] (by kernel_rfl) (by kernel_rfl) ?_
      refine at_seg [(0, []), (1, [])] [(0, .str p0), (2, .ptr (some (h.size, 0))), (3, .ptr (some (h1.size, 0))), (4, .int .i64 x2), (7, .int .i64 (p0.length : Int)), (8, .int .i64 x2), (11, .str p0), (12, .int .i64 x2)] H (noU_all rfl) (fun fr => by kernel_rfl) ?_
      intro fr H
      obtain ⟨x3, hx, hm⟩ := bind_some hm
      refine at_step (v := .int .u8 x3) (h1 := h3) [(0, .str p0), (2, .ptr (some (h.size, 0))), (3, .ptr (some (h1.size, 0))), (4, .int .i64 x2), (7, .int .i64 (p0.length : Int)), (8, .int .i64 x2), (13, .int .u8 x3)] H (fun fr => by kernel_rfl) (fun fr => .of (s_ixS (by kernel_rfl) hx)) ?_
      intro fr t H
      refine at_seg [(3, [])] [(0, .str p0), (2, .ptr (some (h.size, 0))), (3, .ptr (some (h1.size, 0))), (4, .int .i64 x2), (5, .int .u8 x3), (7, .int .i64 (p0.length : Int)), (8, .int .i64 x2)] H (noU_all rfl) (fun fr => by kernel_rfl) ?_
      intro fr H
      refine at_nil ?_
      show AW cfg 82 g (right (right (left (left (right (right (left (left (right (left (right (right (bodyC cfg.P 82))))))))))))) fr h3 _
      refine aw_seq (by kernel_rfl) ?_
      obtain ⟨o2, ho, hm⟩ := bind_some hm
      refine aw_mono (Q' := fun e fr' h' => (∃ (x4 : Int), e = .normal ∧ x4 = o2 ∧ h3 = h' ∧ Has fr' 35 [(0, .str p0), (2, .ptr (some (h.size, 0))), (3, .ptr (some (h1.size, 0))), (5, .int .u8 x4), (7, .int .i64 (p0.length : Int)), (8, .int .i64 x2)]) ∨ False) ?_ ?_
      · replace hm := ho
        clear ho
        refine aw_seq (by kernel_rfl) ?_
        refine aw_reg (id := 6) (n := 6) [(0, []), (1, []), (2, []), (3, []), (4, []), (5, [])] (by kernel_rfl) (by kernel_rfl) ?_
        refine at_seg [(0, []), (1, []), (2, [])] [(0, .str p0), (2, .ptr (some (h.size, 0))), (3, .ptr (some (h1.size, 0))), (4, .int .i64 x2), (5, .int .u8 x3), (7, .int .i64 (p0.length : Int)), (8, .int .i64 x2), (16, .bool (decide (x2 ≥ (148 : Int))))] H (noU_all rfl) (fun fr => by kernel_rfl) ?_
        intro fr H
        refine at_cut [(3, []), (4, []), (5, [])] (fun fr' h' => h3 = h' ∧ Has fr' 35 [(0, .str p0), (2, .ptr (some (h.size, 0))), (3, .ptr (some (h1.size, 0))), (5, .int .u8 x3), (7, .int .i64 (p0.length : Int)), (8, .int .i64 x2), (19, .bool ((decide (x2 ≥ (148 : Int))) && (decide (x2 < (156 : Int)))))]) ?_ ?_
        · cases hb : (decide (x2 ≥ (148 : Int)) : Bool) with
          | true =>
            replace H := H.know 16 hb (by kernel_rfl)
            refine at_seg [(3, []), (4, []), (5, [])] [(0, .str p0), (2, .ptr (some (h.size, 0))), (3, .ptr (some (h1.size, 0))), (5, .int .u8 x3), (7, .int .i64 (p0.length : Int)), (8, .int .i64 x2), (19, .bool (decide (x2 < (156 : Int))))] H (noU_all rfl) (fun fr => by kernel_rfl) ?_
            intro fr H
            exact at_nil ⟨rfl, by first | exact H.less _ (fun fr => by rfl) | exact H.less _ (fun fr => by rw [hb]; rfl)⟩
          | false =>
            replace H := H.know 16 hb (by kernel_rfl)
            refine at_seg [(3, []), (4, []), (5, [])] [(0, .str p0), (2, .ptr (some (h.size, 0))), (3, .ptr (some (h1.size, 0))), (5, .int .u8 x3), (7, .int .i64 (p0.length : Int)), (8, .int .i64 x2), (19, .bool false)] H (noU_all rfl) (fun fr => by kernel_rfl) ?_
            intro fr H
            exact at_nil ⟨rfl, by first | exact H.less _ (fun fr => by rfl) | exact H.less _ (fun fr => by rw [hb]; rfl)⟩
        · intro t fr h' hK
          obtain ⟨e, H⟩ := hK
          subst e
          refine at_nil ?_
          show AW cfg 82 g (right (left (right (right (left (left (right (right (left (left (right (left (right (right (bodyC cfg.P 82))))))))))))))) fr h3 _
          rcases iteB_some hm with ⟨hb, hm⟩ | ⟨hb, hm⟩
          · replace H := H.know 19 hb (by kernel_rfl)
            refine aw_true (x := .tmp 19) (by kernel_rfl) H (fun fr => by kernel_rfl) ?_
            refine aw_reg (id := 7) (n := 1) [(0, [])] (by kernel_rfl) (by kernel_rfl) ?_
            refine at_seg [(0, [])] [(0, .str p0), (2, .ptr (some (h.size, 0))), (3, .ptr (some (h1.size, 0))), (5, .int .u8 (32 : Int)), (7, .int .i64 (p0.length : Int)), (8, .int .i64 x2)] H (noU_all rfl) (fun fr => by kernel_rfl) ?_
            intro fr H
            refine at_nil ?_
            exact Or.inl ⟨(32 : Int), rfl, Option.some.inj hm, rfl, H.less _ (fun fr => by kernel_rfl)⟩
          · replace H := H.know 19 hb (by kernel_rfl)
            refine aw_false (x := .tmp 19) (by kernel_rfl) H (fun fr => by kernel_rfl) ?_
            refine aw_skip (by kernel_rfl) ?_
            exact Or.inl ⟨x3, rfl, Option.some.inj hm, rfl, H.less _ (fun fr => by kernel_rfl)⟩
      · clear ho
        intro e fr hz hQ
        rcases hQ with ⟨x4, rfl, rfl, rfl, H⟩ | hF
        · skip
          show AW cfg 82 g (right (right (right (left (left (right (right (left (left (right (left (right (right (bodyC cfg.P 82)))))))))))))) fr h3 _
          refine aw_seq (by kernel_rfl) ?_
          refine aw_reg (id := 8) (n := 7) [(0, []), (1, []), (2, []), (3, []), (4, []), (5, []), (6, [])] (by kernel_rfl) (by kernel_rfl) ?_
          obtain ⟨a1, hx, hm⟩ := bind_some hm
          refine at_step (v := .ptr (some a1)) (h1 := h3) [(0, .str p0), (2, .ptr (some (h.size, 0))), (3, .ptr (some (h1.size, 0))), (5, .int .u8 x4), (7, .int .i64 (p0.length : Int)), (8, .int .i64 x2), (20, .ptr (some (a1.1, a1.2)))] H (fun fr => by kernel_rfl) (fun fr => .of (s_ixA (by kernel_rfl) hx)) ?_
          intro fr t H
          obtain ⟨x5, hx, hm⟩ := bind_some hm
          refine at_step (v := .int .i64 x5) (h1 := h3) [(0, .str p0), (2, .ptr (some (h.size, 0))), (3, .ptr (some (h1.size, 0))), (5, .int .u8 x4), (7, .int .i64 (p0.length : Int)), (8, .int .i64 x2), (21, .int .i64 x5)] H (fun fr => by kernel_rfl) (fun fr => .of (s_ld (by kernel_rfl) (ldI_eq hx))) ?_
          intro fr t H
          refine at_seg [(2, []), (3, []), (4, [])] [(0, .str p0), (2, .ptr (some (h.size, 0))), (3, .ptr (some (h1.size, 0))), (5, .int .u8 x4), (7, .int .i64 (p0.length : Int)), (8, .int .i64 x2), (24, .int .i64 (IntKind.i64.wrap (x5 + (IntKind.i64.wrap x4))))] H (noU_all rfl) (fun fr => by kernel_rfl) ?_
          intro fr H
          obtain ⟨a2, hx, hm⟩ := bind_some hm
          refine at_step (v := .ptr (some a2)) (h1 := h3) [(0, .str p0), (2, .ptr (some (h.size, 0))), (3, .ptr (some (h1.size, 0))), (5, .int .u8 x4), (7, .int .i64 (p0.length : Int)), (8, .int .i64 x2), (24, .int .i64 (IntKind.i64.wrap (x5 + (IntKind.i64.wrap x4)))), (25, .ptr (some (a2.1, a2.2)))] H (fun fr => by kernel_rfl) (fun fr => .of (s_ixA (by kernel_rfl) hx)) ?_
          intro fr t H
          obtain ⟨h4, hx, hm⟩ := bind_some hm
          refine at_step (v := .tuple []) (h1 := h4) [(0, .str p0), (2, .ptr (some (h.size, 0))), (3, .ptr (some (h1.size, 0))), (5, .int .u8 x4), (7, .int .i64 (p0.length : Int)), (8, .int .i64 x2)] H (fun fr => by kernel_rfl) (fun fr => .of (s_st (by kernel_rfl) rfl hx)) ?_
          intro fr t H
          refine at_nil ?_
          show AW cfg 82 g (right (right (right (right (left (left (right (right (left (left (right (left (right (right (bodyC cfg.P 82))))))))))))))) fr h4 _
          refine aw_reg (id := 9) (n := 8) [(0, []), (1, []), (2, []), (3, []), (4, []), (5, []), (6, []), (7, [])] (by kernel_rfl) (by kernel_rfl) ?_
          obtain ⟨a3, hx, hm⟩ := bind_some hm
          refine at_step (v := .ptr (some a3)) (h1 := h4) [(0, .str p0), (2, .ptr (some (h.size, 0))), (3, .ptr (some (h1.size, 0))), (5, .int .u8 x4), (7, .int .i64 (p0.length : Int)), (8, .int .i64 x2), (26, .ptr (some (a3.1, a3.2)))] H (fun fr => by kernel_rfl) (fun fr => .of (s_ixA (by kernel_rfl) hx)) ?_
          intro fr t H
          obtain ⟨x6, hx, hm⟩ := bind_some hm
          refine at_step (v := .int .i64 x6) (h1 := h4) [(0, .str p0), (2, .ptr (some (h.size, 0))), (3, .ptr (some (h1.size, 0))), (5, .int .u8 x4), (7, .int .i64 (p0.length : Int)), (8, .int .i64 x2), (27, .int .i64 x6)] H (fun fr => by kernel_rfl) (fun fr => .of (s_ld (by kernel_rfl) (ldI_eq hx))) ?_
          intro fr t H
          refine at_seg [(2, []), (3, []), (4, []), (5, [])] [(0, .str p0), (2, .ptr (some (h.size, 0))), (3, .ptr (some (h1.size, 0))), (7, .int .i64 (p0.length : Int)), (8, .int .i64 x2), (31, .int .i64 (IntKind.i64.wrap (x6 + (IntKind.i64.wrap (IntKind.i8.wrap x4)))))] H (noU_all rfl) (fun fr => by kernel_rfl) ?_
          intro fr H
          obtain ⟨a4, hx, hm⟩ := bind_some hm
          refine at_step (v := .ptr (some a4)) (h1 := h4) [(0, .str p0), (2, .ptr (some (h.size, 0))), (3, .ptr (some (h1.size, 0))), (7, .int .i64 (p0.length : Int)), (8, .int .i64 x2), (31, .int .i64 (IntKind.i64.wrap (x6 + (IntKind.i64.wrap (IntKind.i8.wrap x4))))), (32, .ptr (some (a4.1, a4.2)))] H (fun fr => by kernel_rfl) (fun fr => .of (s_ixA (by kernel_rfl) hx)) ?_
          intro fr t H
          obtain ⟨h5, hx, hm⟩ := bind_some hm
          refine at_step (v := .tuple []) (h1 := h5) [(0, .str p0), (2, .ptr (some (h.size, 0))), (3, .ptr (some (h1.size, 0))), (7, .int .i64 (p0.length : Int)), (8, .int .i64 x2)] H (fun fr => by kernel_rfl) (fun fr => .of (s_st (by kernel_rfl) rfl hx)) ?_
          intro fr t H
          refine at_nil ?_
          show AW cfg 82 g (right (right (right (left (left (right (left (right (right (bodyC cfg.P 82)))))))))) fr h5 _
          refine aw_reg (id := 10) (n := 2) [(0, []), (1, [])] (by kernel_rfl) (by kernel_rfl) ?_
          refine at_seg [(0, []), (1, [])] [(0, .str p0), (2, .ptr (some (h.size, 0))), (3, .ptr (some (h1.size, 0))), (7, .int .i64 (p0.length : Int)), (8, .int .i64 (IntKind.i64.wrap (x2 + (1 : Int))))] H (noU_all rfl) (fun fr => by kernel_rfl) ?_
          intro fr H
          refine at_nil ?_
          exact Exists.intro (IntKind.i64.wrap (x2 + (1 : Int)), h5) (And.intro (Option.some.inj hm).symm ⟨IntKind.i64.wrap (x2 + (1 : Int)), rfl, rfl, H.less _ (fun fr => by kernel_rfl)⟩)
        · exact hF.elim
    · replace H := H.know 9 hb (by kernel_rfl)
      refine aw_false (x := .tmp 9) (by kernel_rfl) H (fun fr => by kernel_rfl) ?_
      refine aw_exit (i := 0) (by kernel_rfl) ?_
      exact Exists.intro _ (And.intro (Option.some.inj hm).symm (fun e => Or.inl ⟨rfl, e, rfl, H.less _ (fun fr => by kernel_rfl)⟩))
  · clear ho
    intro e fr h6 hQ
    rcases hQ with ⟨rfl, rfl, _, H⟩ | hF
    · skip
      show AW cfg 82 g (right (right (right (bodyC cfg.P 82)))) fr h6 _
      refine aw_seq (by kernel_rfl) ?_
      refine aw_reg (id := 11) (n := 2) [(0, []), (1, [])] (by kernel_rfl) (by kernel_rfl) ?_
      obtain ⟨x7, hx, hm⟩ := bind_some hm
      refine at_step (v := .agg x7) (h1 := h6) [(2, .ptr (some (h.size, 0))), (34, .agg x7)] H (fun fr => by kernel_rfl) (fun fr => .of (s_ldA (by kernel_rfl) hx)) ?_
      intro fr t H
      obtain ⟨h7, hx, hm⟩ := bind_some hm
      refine at_step (v := .tuple []) (h1 := h7) [(2, .ptr (some (h.size, 0)))] H (fun fr => by kernel_rfl) (fun fr => .of (s_stG (by kernel_rfl) hx)) ?_
      intro fr t H
      refine at_nil ?_
      show AW cfg 82 g (right (right (right (right (bodyC cfg.P 82))))) fr h7 _
      refine aw_ret (by kernel_rfl) ?_
      obtain ⟨x8, hy0, hm⟩ := bind_some hm
      obtain ⟨e1, e2⟩ := inj2 hm
      subst e2
      subst e1
      exact (done_ret H (fun fr => resL_one (.cell (by kernel_rfl) (load_ldA (by kernel_rfl) (by kernel_rfl) hy0) .nil)) rfl : doneQ cfg.P _ _ _ _ fr _)
    · exact hF.elim
/-! ### boulter/sums.Seal -/
noncomputable def M_sums_Seal (h : AHeap) (p0 : List UInt8) : Option ((List UInt8) × Int) :=
 iteB ((p0.length : Int) != (512 : Int)) (some (([] : List UInt8), (1 : Int))) ((M_sums_both (⟨h.size, []⟩ : Gd) h p0).bind fun (x1, h1) => ((ixG x1 2 1 (0 : Int)).bind (asI .i64)).bind fun x2 => (M_octal_Octal h1 x2 (7 : Int)).bind fun (x3, x4) => (subS p0 none (some (148 : Int))).bind fun x5 => need (decide (x5.length + x3.length ≤ 9223372036854775807)) <| need (decide ((x5 ++ x3).length + ([32] : List UInt8).length ≤ 9223372036854775807)) <| (subS p0 (some (156 : Int)) none).bind fun x6 => need (decide (((x5 ++ x3) ++ ([32] : List UInt8)).length + x6.length ≤ 9223372036854775807)) <| some (((x5 ++ x3) ++ ([32] : List UInt8)) ++ x6, (0 : Int)))
theorem ok_sums_Seal {g : Gd} {h : AHeap} {p0 : List UInt8} {r0 : List UInt8} {r1 : Int} (hm : M_sums_Seal h p0 = some (r0, r1)) : Runs cfg g h 47 [.str p0] (.tuple [.str r0, .int .i64 r1]) h := by
  refine runs2E (by kernel_rfl) (by kernel_rfl) (body_ofE (n := 24) (rs := [.tmp 2, .tmp 3]) (by kernel_rfl) ?_)
  unfold M_sums_Seal at hm
  refine start (n := 24) [(0, .str p0)] (by kernel_rfl) (by kernel_rfl) ?_
  intro fr H
  refine aw_seq (by kernel_rfl) ?_
  refine aw_reg (id := 0) (n := 2) [(0, []), (1, [])] (by kernel_rfl) (by kernel_rfl) ?_
  refine at_seg [(0, []), (1, [])] [(0, .str p0)] H (noU_all rfl) (fun fr => by kernel_rfl) ?_
  intro fr H
  refine at_nil ?_
  show AW cfg 47 (⟨h.size, []⟩ : Gd) (right (bodyC cfg.P 47)) fr h _
  refine aw_seq (by kernel_rfl) ?_
  refine aw_seq (by kernel_rfl) ?_
  refine aw_reg (id := 1) (n := 3) [(0, []), (1, []), (2, [])] (by kernel_rfl) (by kernel_rfl) ?_
  refine at_seg [(0, []), (1, []), (2, [])] [(0, .str p0), (8, .bool ((p0.length : Int) != (512 : Int)))] H (noU_all rfl) (fun fr => by kernel_rfl) ?_
  intro fr H
  refine at_nil ?_
  show AW cfg 47 (⟨h.size, []⟩ : Gd) (right (left (right (bodyC cfg.P 47)))) fr h _
  rcases iteB_some hm with ⟨hb, hm⟩ | ⟨hb, hm⟩
  · replace H := H.know 8 hb (by kernel_rfl)
    refine aw_true (x := .tmp 8) (by kernel_rfl) H (fun fr => by kernel_rfl) ?_
    refine aw_seq (by kernel_rfl) ?_
    refine aw_reg (id := 2) (n := 2) [(0, []), (1, [])] (by kernel_rfl) (by kernel_rfl) ?_
    refine at_seg [(0, []), (1, [])] [(2, .str ([] : List UInt8)), (3, .int .i64 (1 : Int))] H (noU_all rfl) (fun fr => by kernel_rfl) ?_
    intro fr H
    refine at_nil ?_
    show AW cfg 47 (⟨h.size, []⟩ : Gd) (right (left (right (left (right (bodyC cfg.P 47)))))) fr h _
    refine aw_ret (by kernel_rfl) ?_
    have e1 := Option.some.inj hm
    obtain ⟨u0, v0⟩ := Prod.mk.inj e1
    subst u0
    subst v0
    exact (doneE_of .ret H (fun fr => by kernel_rfl) (.inl rfl) : doneE cfg.P _ _ _ fr _)
  · replace H := H.know 8 hb (by kernel_rfl)
    refine aw_false (x := .tmp 8) (by kernel_rfl) H (fun fr => by kernel_rfl) ?_
    refine aw_skip (by kernel_rfl) ?_
    show AW cfg 47 (⟨h.size, []⟩ : Gd) (right (right (bodyC cfg.P 47))) fr h _
    refine aw_seq (by kernel_rfl) ?_
    refine aw_reg (id := 3) (n := 9) [(0, []), (1, []), (2, []), (3, []), (4, []), (5, []), (6, []), (7, []), (8, [])] (by kernel_rfl) (by kernel_rfl) ?_
    refine at_seg [(0, [])] [(0, .str p0), (10, .str p0)] H (noU_all rfl) (fun fr => by kernel_rfl) ?_
    intro fr H
    obtain ⟨⟨x1, h1⟩, hx, hm⟩ := bind_some hm
    refine at_step (v := .agg x1) (h1 := h1) [(0, .str p0), (11, .agg x1)] H (fun fr => by kernel_rfl) (fun fr => Steps.call (by kernel_rfl) (ok_sums_both hx)) ?_
    intro fr t H
    obtain ⟨x2, hx, hm⟩ := bind_some hm
    obtain ⟨u, hx, hu⟩ := bind_some hx
    have hu := asI_eq hu
    subst hu
    refine at_step (v := .int .i64 x2) (h1 := h1) [(0, .str p0), (12, .int .i64 x2)] H (fun fr => by kernel_rfl) (fun fr => .of (s_ixG (by kernel_rfl) hx)) ?_
    intro fr t H
    obtain ⟨⟨x3, x4⟩, hx, hm⟩ := bind_some hm
    refine at_step (v := .tuple [.str x3, .bool x4]) (h1 := h1) [(0, .str p0), (13, .tuple [.str x3, .bool x4])] H (fun fr => by kernel_rfl) (fun fr => Steps.call (by kernel_rfl) (ok_octal_Octal hx)) ?_
    intro fr t H
    refine at_seg [(4, []), (5, []), (6, []), (7, []), (8, [])] [(0, .str p0), (4, .str x3)] H (noU_all rfl) (fun fr => by kernel_rfl) ?_
    intro fr H
    refine at_nil ?_
    show AW cfg 47 (⟨h.size, []⟩ : Gd) (right (right (right (bodyC cfg.P 47)))) fr h1 _
    refine aw_seq (by kernel_rfl) ?_
    refine aw_draw (id := 4) (n := 10) (by kernel_rfl) [(0, []), (1, []), (2, []), (3, []), (4, []), (5, []), (6, []), (7, []), (8, []), (9, [])] (by kernel_rfl) ?_
    refine at_seg [(0, [])] [(0, .str p0), (4, .str x3), (16, .str p0)] H (noU_all rfl) (fun fr => by kernel_rfl) ?_
    intro fr H
    obtain ⟨x5, hx, hm⟩ := bind_some hm
    refine at_step (v := .str x5) (h1 := h1) [(0, .str p0), (4, .str x3), (17, .str x5)] H (fun fr => by kernel_rfl) (fun fr => .of (s_subS (k := .i64) (k' := .i64) (lo := none) (hi := (some (148 : Int))) (by kernel_rfl) hx)) ?_
    intro fr t H
    refine at_seg [(2, [])] [(0, .str p0), (17, .str x5), (18, .str x3)] H (noU_all rfl) (fun fr => by kernel_rfl) ?_
    intro fr H
    obtain ⟨hb, hm⟩ := need_some hm
    refine at_step (v := .str (x5 ++ x3)) (h1 := h1) [(0, .str p0), (19, .str (x5 ++ x3))] H (fun fr => by kernel_rfl) (fun fr => .of (s_cat (by kernel_rfl) hb)) ?_
    intro fr t H
    obtain ⟨hb, hm⟩ := need_some hm
    refine at_step (v := .str ((x5 ++ x3) ++ ([32] : List UInt8))) (h1 := h1) [(0, .str p0), (20, .str ((x5 ++ x3) ++ ([32] : List UInt8)))] H (fun fr => by kernel_rfl) (fun fr => .of (s_cat (by kernel_rfl) hb)) ?_
    intro fr t H
    refine at_seg [(5, [])] [(20, .str ((x5 ++ x3) ++ ([32] : List UInt8))), (21, .str p0)] H (noU_all rfl) (fun fr => by kernel_rfl) ?_
    intro fr H
    obtain ⟨x6, hx, hm⟩ := bind_some hm
    refine at_step (v := .str x6) (h1 := h1) [(20, .str ((x5 ++ x3) ++ ([32] : List UInt8))), (22, .str x6)] H (fun fr => by kernel_rfl) (fun fr => .of (s_subS (k := .i64) (k' := .i64) (lo := (some (156 : Int))) (hi := none) (by kernel_rfl) hx)) ?_
    intro fr t H
    obtain ⟨hb, hm⟩ := need_some hm
    refine at_step (v := .str (((x5 ++ x3) ++ ([32] : List UInt8)) ++ x6)) (h1 := h1) [(23, .str (((x5 ++ x3) ++ ([32] : List UInt8)) ++ x6))] H (fun fr => by kernel_rfl) (fun fr => .of (s_cat (by kernel_rfl) hb)) ?_
    intro fr t H
    refine at_seg [(8, []), (9, [])] [(2, .str (((x5 ++ x3) ++ ([32] : List UInt8)) ++ x6)), (3, .int .i64 (0 : Int))] H (noU_all rfl) (fun fr => by kernel_rfl) ?_
    intro fr H
    refine at_nil ?_
    show AW cfg 47 (⟨h.size, []⟩ : Gd) (right (right (right (right (bodyC cfg.P 47))))) fr h1 _
    refine aw_ret (by kernel_rfl) ?_
    have e1 := Option.some.inj hm
    obtain ⟨u0, v0⟩ := Prod.mk.inj e1
    subst u0
    subst v0
    exact (doneE_of .ret H (fun fr => by kernel_rfl) (.inl rfl) : doneE cfg.P _ _ _ fr _)
/-! ### boulter/sums.Right -/
noncomputable def M_sums_Right_L0 (x4 : Int) (x6 : List AVal) (s : Int) : Option ((Int) ⊕ ((Unit) ⊕ (Bool))) :=
  match s with
  | x9 => iteB (decide (x9 < (2 : Int))) (((ixG x6 2 1 x9).bind (asI .i64)).bind fun x10 => iteB (x4 == x10) (some (.inr (.inr true))) (some (.inl (IntKind.i64.wrap (x9 + (1 : Int)))))) (some (.inr (.inl ())))
noncomputable def M_sums_Right (h : AHeap) (p0 : List UInt8) : Option (Bool) :=
 (iteB ((p0.length : Int) != (512 : Int)) (some true) ((ixS p0 (148 : Int)).bind fun x2 => some (decide (x2 ≥ (128 : Int)))) : Option (Bool)).bind fun x1 => iteB x1 (some false) ((subS p0 (some (148 : Int)) (some (156 : Int))).bind fun x3 => (M_octal_Read h x3).bind fun (x4, x5) => iteB (x5 != (0 : Int)) (some false) ((M_sums_both (⟨h.size, []⟩ : Gd) h p0).bind fun (x6, h1) => (loop (M_sums_Right_L0 x4 x6) (0 : Int)).bind fun o1 => (match o1 with | .inl _ => some false | .inr x8 => some x8)))
theorem ok_sums_Right {g : Gd} {h : AHeap} {p0 : List UInt8} {r0 : Bool} (hm : M_sums_Right h p0 = some r0) : Runs cfg g h 49 [.str p0] (.bool r0) h := by
  refine runs2E (by kernel_rfl) (by kernel_rfl) (body_ofE (n := 32) (rs := [.tmp 2]) (by kernel_rfl) ?_)
  unfold M_sums_Right at hm
  refine start (n := 32) [(0, .str p0)] (by kernel_rfl) (by kernel_rfl) ?_
  intro fr H
  refine aw_seq (by kernel_rfl) ?_
  refine aw_reg (id := 0) (n := 1) [(0, [])] (by kernel_rfl) (by kernel_rfl) ?_
  refine at_seg [(0, [])] [(0, .str p0)] H (noU_all rfl) (fun fr => by kernel_rfl) ?_
  intro fr H
  refine at_nil ?_
  show AW cfg 49 (⟨h.size, []⟩ : Gd) (right (bodyC cfg.P 49)) fr h _
  refine aw_seq (by kernel_rfl) ?_
  refine aw_seq (by kernel_rfl) ?_
  refine aw_reg (id := 1) (n := 8) [(0, []), (1, []), (2, []), (3, []), (4, []), (5, []), (6, []), (7, [])] (by kernel_rfl) (by kernel_rfl) ?_
  refine at_seg [(0, []), (1, []), (2, []), (3, [])] [(0, .str p0), (10, .bool ((p0.length : Int) != (512 : Int)))] H (noU_all rfl) (fun fr => by kernel_rfl) ?_
  intro fr H
  obtain ⟨x1, ho, hm⟩ := bind_some hm
  refine at_cut [(4, []), (5, []), (6, []), (7, [])] (fun fr' h' => h = h' ∧ Has fr' 32 [(0, .str p0), (14, .bool x1)]) ?_ ?_
  · rcases iteB_some ho with ⟨hb, hm⟩ | ⟨hb, hm⟩
    · replace H := H.know 10 hb (by kernel_rfl)
      refine at_seg [(4, []), (5, []), (6, []), (7, [])] [(0, .str p0), (14, .bool true)] H (noU_all rfl) (fun fr => by kernel_rfl) ?_
      intro fr H
      have e1 := Option.some.inj hm
      subst e1
      exact at_nil ⟨rfl, H.less _ (fun fr => by kernel_rfl)⟩
    · replace H := H.know 10 hb (by kernel_rfl)
      refine at_seg [(4, [])] [(0, .str p0), (10, .bool false), (11, .str p0)] H (noU_all rfl) (fun fr => by kernel_rfl) ?_
      intro fr H
      obtain ⟨x2, hx, hm⟩ := bind_some hm
      refine at_step (v := .int .u8 x2) (h1 := h) [(0, .str p0), (10, .bool false), (12, .int .u8 x2)] H (fun fr => by kernel_rfl) (fun fr => .of (s_ixS (by kernel_rfl) hx)) ?_
      intro fr t H
      refine at_seg [(6, []), (7, [])] [(0, .str p0), (14, .bool (decide (x2 ≥ (128 : Int))))] H (noU_all rfl) (fun fr => by kernel_rfl) ?_
      intro fr H
      have e1 := Option.some.inj hm
      subst e1
      exact at_nil ⟨rfl, H.less _ (fun fr => by kernel_rfl)⟩
  · intro t fr h' hK
    obtain ⟨e, H⟩ := hK
    subst e
    refine at_nil ?_
    show AW cfg 49 (⟨h.size, []⟩ : Gd) (right (left (right (bodyC cfg.P 49)))) fr h _
    rcases iteB_some hm with ⟨hb, hm⟩ | ⟨hb, hm⟩
    · replace H := H.know 14 hb (by kernel_rfl)
      refine aw_true (x := .tmp 14) (by kernel_rfl) H (fun fr => by kernel_rfl) ?_
      refine aw_seq (by kernel_rfl) ?_
      refine aw_reg (id := 2) (n := 1) [(0, [])] (by kernel_rfl) (by kernel_rfl) ?_
      refine at_seg [(0, [])] [(2, .bool false)] H (noU_all rfl) (fun fr => by kernel_rfl) ?_
      intro fr H
      refine at_nil ?_
      show AW cfg 49 (⟨h.size, []⟩ : Gd) (right (left (right (left (right (bodyC cfg.P 49)))))) fr h _
      refine aw_ret (by kernel_rfl) ?_
      have e1 := Option.some.inj hm
      subst e1
      exact (doneE_of .ret H (fun fr => by kernel_rfl) (.inl rfl) : doneE cfg.P _ _ _ fr _)
    · replace H := H.know 14 hb (by kernel_rfl)
      refine aw_false (x := .tmp 14) (by kernel_rfl) H (fun fr => by kernel_rfl) ?_
      refine aw_skip (by kernel_rfl) ?_
      show AW cfg 49 (⟨h.size, []⟩ : Gd) (right (right (bodyC cfg.P 49))) fr h _
      refine aw_seq (by kernel_rfl) ?_
      refine aw_reg (id := 3) (n := 8) [(0, []), (1, []), (2, []), (3, []), (4, []), (5, []), (6, []), (7, [])] (by kernel_rfl) (by kernel_rfl) ?_
      refine at_seg [(0, [])] [(0, .str p0), (16, .str p0)] H (noU_all rfl) (fun fr => by kernel_rfl) ?_
      intro fr H
      obtain ⟨x3, hx, hm⟩ := bind_some hm
      refine at_step (v := .str x3) (h1 := h) [(0, .str p0), (17, .str x3)] H (fun fr => by kernel_rfl) (fun fr => .of (s_subS (k := .i64) (k' := .i64) (lo := (some (148 : Int))) (hi := (some (156 : Int))) (by kernel_rfl) hx)) ?_
      intro fr t H
      obtain ⟨⟨x4, x5⟩, hx, hm⟩ := bind_some hm
      refine at_step (v := .tuple [.int .i64 x4, .int .i64 x5]) (h1 := h) [(0, .str p0), (18, .tuple [.int .i64 x4, .int .i64 x5])] H (fun fr => by kernel_rfl) (fun fr => Steps.call (by kernel_rfl) (ok_octal_Read hx)) ?_
      intro fr t H
      refine at_seg [(3, []), (4, []), (5, []), (6, []), (7, [])] [(0, .str p0), (3, .int .i64 x4), (4, .int .i64 x5)] H (noU_all rfl) (fun fr => by kernel_rfl) ?_
      intro fr H
      refine at_nil ?_
      show AW cfg 49 (⟨h.size, []⟩ : Gd) (right (right (right (bodyC cfg.P 49)))) fr h _
      refine aw_seq (by kernel_rfl) ?_
      refine aw_seq (by kernel_rfl) ?_
      refine aw_reg (id := 4) (n := 2) [(0, []), (1, [])] (by kernel_rfl) (by kernel_rfl) ?_
      refine at_seg [(0, []), (1, [])] [(0, .str p0), (3, .int .i64 x4), (22, .bool (x5 != (0 : Int)))] H (noU_all rfl) (fun fr => by kernel_rfl) ?_
      intro fr H
      refine at_nil ?_
      show AW cfg 49 (⟨h.size, []⟩ : Gd) (right (left (right (right (right (bodyC cfg.P 49)))))) fr h _
      rcases iteB_some hm with ⟨hb, hm⟩ | ⟨hb, hm⟩
      · replace H := H.know 22 hb (by kernel_rfl)
        refine aw_true (x := .tmp 22) (by kernel_rfl) H (fun fr => by kernel_rfl) ?_
        refine aw_seq (by kernel_rfl) ?_
        refine aw_reg (id := 5) (n := 1) [(0, [])] (by kernel_rfl) (by kernel_rfl) ?_
        refine at_seg [(0, [])] [(2, .bool false)] H (noU_all rfl) (fun fr => by kernel_rfl) ?_
        intro fr H
        refine at_nil ?_
        show AW cfg 49 (⟨h.size, []⟩ : Gd) (right (left (right (left (right (right (right (bodyC cfg.P 49)))))))) fr h _
        refine aw_ret (by kernel_rfl) ?_
        have e1 := Option.some.inj hm
        subst e1
        exact (doneE_of .ret H (fun fr => by kernel_rfl) (.inl rfl) : doneE cfg.P _ _ _ fr _)
      · replace H := H.know 22 hb (by kernel_rfl)
        refine aw_false (x := .tmp 22) (by kernel_rfl) H (fun fr => by kernel_rfl) ?_
        refine aw_skip (by kernel_rfl) ?_
        show AW cfg 49 (⟨h.size, []⟩ : Gd) (right (right (right (right (bodyC cfg.P 49))))) fr h _
        refine aw_seq (by kernel_rfl) ?_
        refine aw_seq (by kernel_rfl) ?_
        refine aw_reg (id := 6) (n := 3) [(0, []), (1, []), (2, [])] (by kernel_rfl) (by kernel_rfl) ?_
        refine at_seg [(0, [])] [(3, .int .i64 x4), (23, .str p0)] H (noU_all rfl) (fun fr => by kernel_rfl) ?_
        intro fr H
        obtain ⟨⟨x6, h1⟩, hx, hm⟩ := bind_some hm
        refine at_step (v := .agg x6) (h1 := h1) [(3, .int .i64 x4), (24, .agg x6)] H (fun fr => by kernel_rfl) (fun fr => Steps.call (by kernel_rfl) (ok_sums_both hx)) ?_
        intro fr t H
        refine at_seg [(2, [])] [(3, .int .i64 x4), (24, .agg x6), (25, .int .i64 (0 : Int))] H (noU_all rfl) (fun fr => by kernel_rfl) ?_
        intro fr H
        refine at_nil ?_
        show AW cfg 49 (⟨h.size, []⟩ : Gd) (right (left (right (right (right (right (bodyC cfg.P 49))))))) fr h1 _
        refine aw_block (id := 0) (by kernel_rfl) ?_
        obtain ⟨o1, ho, hm⟩ := bind_some hm
        refine aw_mono (Q' := fun e fr' h' => (e = .exit 0 ∧ .inl () = o1 ∧ h1 = h' ∧ Has fr' 32 []) ∨ (∃ (x8 : Bool), e = .ret ∧ .inr x8 = o1 ∧ h1 = h' ∧ Has fr' 32 [(2, .bool x8)]) ∨ False) ?_ ?_
        · refine aw_loop (by kernel_rfl) (fun (s : Int) fr' h' => ∃ (x9 : Int), x9 = s ∧ h1 = h' ∧ Has fr' 32 [(3, .int .i64 x4), (24, .agg x6), (25, .int .i64 x9)]) ho ⟨(0 : Int), rfl, rfl, H.less _ (fun fr => by kernel_rfl)⟩ ?_
          clear ho hm H
          intro s q fr hz hI hm
          obtain ⟨x9, rfl, rfl, H⟩ := hI
          unfold M_sums_Right_L0 at hm
          refine aw_seq (by kernel_rfl) ?_
          refine aw_reg (id := 7) (n := 1) [(0, [])] (by kernel_rfl) (by kernel_rfl) ?_
          refine at_seg [(0, [])] [(3, .int .i64 x4), (24, .agg x6), (25, .int .i64 x9), (26, .bool (decide (x9 < (2 : Int))))] H (noU_all rfl) (fun fr => by kernel_rfl) ?_
          intro fr H
          refine at_nil ?_
          show AW cfg 49 (⟨h.size, []⟩ : Gd) (right (left (left (right (left (right (right (right (right (bodyC cfg.P 49)))))))))) fr h1 _
          refine aw_seq (by kernel_rfl) ?_
          rcases iteB_some hm with ⟨hb, hm⟩ | ⟨hb, hm⟩
          · replace H := H.know 26 hb (by kernel_rfl)
            refine aw_true (x := .tmp 26) (by kernel_rfl) H (fun fr => by kernel_rfl) ?_
            refine aw_skip (by kernel_rfl) ?_
            show AW cfg 49 (⟨h.size, []⟩ : Gd) (right (right (left (left (right (left (right (right (right (right (bodyC cfg.P 49))))))))))) fr h1 _
            refine aw_seq (by kernel_rfl) ?_
            refine aw_block (id := 1) (by kernel_rfl) ?_
            refine aw_seq (by kernel_rfl) ?_
            refine aw_reg (id := 8) (n := 2) [(0, []), (1, [])] (by kernel_rfl) (by kernel_rfl) ?_
            obtain ⟨x10, hx, hm⟩ := bind_some hm
            obtain ⟨u, hx, hu⟩ := bind_some hx
            have hu := asI_eq hu
            subst hu
            refine at_step (v := .int .i64 x10) (h1 := h1) [(3, .int .i64 x4), (24, .agg x6), (25, .int .i64 x9), (27, .int .i64 x10)] H (fun fr => by kernel_rfl) (fun fr => .of (s_ixG (by kernel_rfl) hx)) ?_
            intro fr t H
            refine at_seg [(1, [])] [(3, .int .i64 x4), (6, .int .i64 x10), (24, .agg x6), (25, .int .i64 x9)] H (noU_all rfl) (fun fr => by kernel_rfl) ?_
            intro fr H
            refine at_nil ?_
            show AW cfg 49 (⟨h.size, []⟩ : Gd) (right (left (left (right (right (left (left (right (left (right (right (right (right (bodyC cfg.P 49)))))))))))))) fr h1 _
            refine aw_seq (by kernel_rfl) ?_
            refine aw_reg (id := 9) (n := 3) [(0, []), (1, []), (2, [])] (by kernel_rfl) (by kernel_rfl) ?_
            refine at_seg [(0, []), (1, []), (2, [])] [(3, .int .i64 x4), (24, .agg x6), (25, .int .i64 x9), (30, .bool (x4 == x10))] H (noU_all rfl) (fun fr => by kernel_rfl) ?_
            intro fr H
            refine at_nil ?_
            show AW cfg 49 (⟨h.size, []⟩ : Gd) (right (right (left (left (right (right (left (left (right (left (right (right (right (right (bodyC cfg.P 49))))))))))))))) fr h1 _
            rcases iteB_some hm with ⟨hb, hm⟩ | ⟨hb, hm⟩
            · replace H := H.know 30 hb (by kernel_rfl)
              refine aw_true (x := .tmp 30) (by kernel_rfl) H (fun fr => by kernel_rfl) ?_
              refine aw_seq (by kernel_rfl) ?_
              refine aw_reg (id := 10) (n := 1) [(0, [])] (by kernel_rfl) (by kernel_rfl) ?_
              refine at_seg [(0, [])] [(2, .bool true)] H (noU_all rfl) (fun fr => by kernel_rfl) ?_
              intro fr H
              refine at_nil ?_
              show AW cfg 49 (⟨h.size, []⟩ : Gd) (right (left (right (right (left (left (right (right (left (left (right (left (right (right (right (right (bodyC cfg.P 49))))))))))))))))) fr h1 _
              refine aw_ret (by kernel_rfl) ?_
              exact Exists.intro _ (And.intro (Option.some.inj hm).symm (fun e => Or.inr (Or.inl ⟨true, rfl, e, rfl, H.less _ (fun fr => by kernel_rfl)⟩)))
            · replace H := H.know 30 hb (by kernel_rfl)
              refine aw_false (x := .tmp 30) (by kernel_rfl) H (fun fr => by kernel_rfl) ?_
              refine aw_skip (by kernel_rfl) ?_
              show AW cfg 49 (⟨h.size, []⟩ : Gd) (right (right (right (left (left (right (left (right (right (right (right (bodyC cfg.P 49)))))))))))) fr h1 _
              refine aw_reg (id := 11) (n := 2) [(0, []), (1, [])] (by kernel_rfl) (by kernel_rfl) ?_
              refine at_seg [(0, []), (1, [])] [(3, .int .i64 x4), (24, .agg x6), (25, .int .i64 (IntKind.i64.wrap (x9 + (1 : Int))))] H (noU_all rfl) (fun fr => by kernel_rfl) ?_
              intro fr H
              refine at_nil ?_
              exact Exists.intro (IntKind.i64.wrap (x9 + (1 : Int))) (And.intro (Option.some.inj hm).symm ⟨IntKind.i64.wrap (x9 + (1 : Int)), rfl, rfl, H.less _ (fun fr => by kernel_rfl)⟩)
          · replace H := H.know 26 hb (by kernel_rfl)
            refine aw_false (x := .tmp 26) (by kernel_rfl) H (fun fr => by kernel_rfl) ?_
            refine aw_exit (i := 0) (by kernel_rfl) ?_
            exact Exists.intro _ (And.intro (Option.some.inj hm).symm (fun e => Or.inl ⟨rfl, e, rfl, H.less _ (fun fr => by kernel_rfl)⟩))
        · clear ho
          intro e fr hz hQ
          rcases hQ with ⟨rfl, rfl, rfl, H⟩ | ⟨x8, rfl, rfl, rfl, H⟩ | hF
          · skip
            show AW cfg 49 (⟨h.size, []⟩ : Gd) (right (right (right (right (right (bodyC cfg.P 49)))))) fr h1 _
            refine aw_seq (by kernel_rfl) ?_
            refine aw_reg (id := 12) (n := 1) [(0, [])] (by kernel_rfl) (by kernel_rfl) ?_
            refine at_seg [(0, [])] [(2, .bool false)] H (noU_all rfl) (fun fr => by kernel_rfl) ?_
            intro fr H
            refine at_nil ?_
            show AW cfg 49 (⟨h.size, []⟩ : Gd) (right (right (right (right (right (right (bodyC cfg.P 49))))))) fr h1 _
            refine aw_ret (by kernel_rfl) ?_
            have e1 := Option.some.inj hm
            subst e1
            exact (doneE_of .ret H (fun fr => by kernel_rfl) (.inl rfl) : doneE cfg.P _ _ _ fr _)
          · skip
            have e1 := Option.some.inj hm
            subst e1
            exact (doneE_of .ret H (fun fr => by kernel_rfl) (.inl rfl) : doneE cfg.P _ _ _ fr _)
          · exact hF.elim
/-! ### boulter/sums.Blank -/
noncomputable def M_sums_Blank_L0 (p0 : List UInt8) (s : Int) : Option ((Int) ⊕ ((Unit) ⊕ (Bool))) :=
  match s with
  | x3 => iteB (decide (x3 < (p0.length : Int))) ((ixS p0 x3).bind fun x4 => iteB (x4 != (0 : Int)) (some (.inr (.inr false))) (some (.inl (IntKind.i64.wrap (x3 + (1 : Int)))))) (some (.inr (.inl ())))
noncomputable def M_sums_Blank (h : AHeap) (p0 : List UInt8) : Option (Bool) :=
 (loop (M_sums_Blank_L0 p0) (0 : Int)).bind fun o1 => (match o1 with | .inl _ => some ((p0.length : Int) == (512 : Int)) | .inr x2 => some x2)
theorem ok_sums_Blank {g : Gd} {h : AHeap} {p0 : List UInt8} {r0 : Bool} (hm : M_sums_Blank h p0 = some r0) : Runs cfg g h 50 [.str p0] (.bool r0) h := by
  refine runs2E (by kernel_rfl) (by kernel_rfl) (body_ofE (n := 17) (rs := [.tmp 2]) (by kernel_rfl) ?_)
  unfold M_sums_Blank at hm
  refine start (n := 17) [(0, .str p0)] (by kernel_rfl) (by kernel_rfl) ?_
  intro fr H
  refine aw_seq (by kernel_rfl) ?_
  refine aw_reg (id := 0) (n := 1) [(0, [])] (by kernel_rfl) (by kernel_rfl) ?_
  refine at_seg [(0, [])] [(0, .str p0)] H (noU_all rfl) (fun fr => by kernel_rfl) ?_
  intro fr H
  refine at_nil ?_
  show AW cfg 50 (⟨h.size, []⟩ : Gd) (right (bodyC cfg.P 50)) fr h _
  refine aw_seq (by kernel_rfl) ?_
  refine aw_seq (by kernel_rfl) ?_
  refine aw_reg (id := 1) (n := 3) [(0, []), (1, []), (2, [])] (by kernel_rfl) (by kernel_rfl) ?_
  refine at_seg [(0, []), (1, []), (2, [])] [(0, .str p0), (5, .int .i64 (p0.length : Int)), (6, .int .i64 (0 : Int))] H (noU_all rfl) (fun fr => by kernel_rfl) ?_
  intro fr H
  refine at_nil ?_
  show AW cfg 50 (⟨h.size, []⟩ : Gd) (right (left (right (bodyC cfg.P 50)))) fr h _
  refine aw_block (id := 0) (by kernel_rfl) ?_
  obtain ⟨o1, ho, hm⟩ := bind_some hm
  refine aw_mono (Q' := fun e fr' h' => (e = .exit 0 ∧ .inl () = o1 ∧ h = h' ∧ Has fr' 17 [(0, .str p0)]) ∨ (∃ (x2 : Bool), e = .ret ∧ .inr x2 = o1 ∧ h = h' ∧ Has fr' 17 [(2, .bool x2)]) ∨ False) ?_ ?_
  · refine aw_loop (by kernel_rfl) (fun (s : Int) fr' h' => ∃ (x3 : Int), x3 = s ∧ h = h' ∧ Has fr' 17 [(0, .str p0), (5, .int .i64 (p0.length : Int)), (6, .int .i64 x3)]) ho ⟨(0 : Int), rfl, rfl, H.less _ (fun fr => by kernel_rfl)⟩ ?_
    clear ho hm H
    intro s q fr hz hI hm
    obtain ⟨x3, rfl, rfl, H⟩ := hI
    unfold M_sums_Blank_L0 at hm
    refine aw_seq (by kernel_rfl) ?_
    refine aw_reg (id := 2) (n := 1) [(0, [])] (by kernel_rfl) (by kernel_rfl) ?_
    refine at_seg [(0, [])] [(0, .str p0), (5, .int .i64 (p0.length : Int)), (6, .int .i64 x3), (7, .bool (decide (x3 < (p0.length : Int))))] H (noU_all rfl) (fun fr => by kernel_rfl) ?_
    intro fr H
    refine at_nil ?_
    show AW cfg 50 (⟨h.size, []⟩ : Gd) (right (left (left (right (left (right (bodyC cfg.P 50))))))) fr h _
    refine aw_seq (by kernel_rfl) ?_
    rcases iteB_some hm with ⟨hb, hm⟩ | ⟨hb, hm⟩
    · replace H := H.know 7 hb (by kernel_rfl)
      refine aw_true (x := .tmp 7) (by kernel_rfl) H (fun fr => by kernel_rfl) ?_
      refine aw_skip (by kernel_rfl) ?_
      show AW cfg 50 (⟨h.size, []⟩ : Gd) (right (right (left (left (right (left (right (bodyC cfg.P 50)))))))) fr h _
      refine aw_seq (by kernel_rfl) ?_
      refine aw_block (id := 1) (by kernel_rfl) ?_
      refine aw_seq (by kernel_rfl) ?_
      refine aw_reg (id := 3) (n := 2) [(0, []), (1, [])] (by kernel_rfl) (by kernel_rfl) ?_
      refine at_seg [(0, []), (1, [])] [(0, .str p0), (3, .int .i64 x3), (5, .int .i64 (p0.length : Int)), (6, .int .i64 x3)] H (noU_all rfl) (fun fr => by kernel_rfl) ?_
      intro fr H
      refine at_nil ?_
      show AW cfg 50 (⟨h.size, []⟩ : Gd) (right (left (left (right (right (left (left (right (left (right (bodyC cfg.P 50))))))))))) fr h _
      refine aw_seq (by kernel_rfl) ?_
      refine aw_reg (id := 4) (n := 4) [(0, []), (1, []), (2, []), (3, [])] (by kernel_rfl) (by kernel_rfl) ?_
      refine at_seg [(0, []), (1, [])] [(0, .str p0), (5, .int .i64 (p0.length : Int)), (6, .int .i64 x3), (9, .str p0), (10, .int .i64 x3)] H (noU_all rfl) (fun fr => by kernel_rfl) ?_
      intro fr H
      obtain ⟨x4, hx, hm⟩ := bind_some hm
      refine at_step (v := .int .u8 x4) (h1 := h) [(0, .str p0), (5, .int .i64 (p0.length : Int)), (6, .int .i64 x3), (11, .int .u8 x4)] H (fun fr => by kernel_rfl) (fun fr => .of (s_ixS (by kernel_rfl) hx)) ?_
      intro fr t H
      refine at_seg [(3, [])] [(0, .str p0), (5, .int .i64 (p0.length : Int)), (6, .int .i64 x3), (12, .bool (x4 != (0 : Int)))] H (noU_all rfl) (fun fr => by kernel_rfl) ?_
      intro fr H
      refine at_nil ?_
      show AW cfg 50 (⟨h.size, []⟩ : Gd) (right (right (left (left (right (right (left (left (right (left (right (bodyC cfg.P 50)))))))))))) fr h _
      rcases iteB_some hm with ⟨hb, hm⟩ | ⟨hb, hm⟩
      · replace H := H.know 12 hb (by kernel_rfl)
        refine aw_true (x := .tmp 12) (by kernel_rfl) H (fun fr => by kernel_rfl) ?_
        refine aw_seq (by kernel_rfl) ?_
        refine aw_reg (id := 5) (n := 1) [(0, [])] (by kernel_rfl) (by kernel_rfl) ?_
        refine at_seg [(0, [])] [(2, .bool false)] H (noU_all rfl) (fun fr => by kernel_rfl) ?_
        intro fr H
        refine at_nil ?_
        show AW cfg 50 (⟨h.size, []⟩ : Gd) (right (left (right (right (left (left (right (right (left (left (right (left (right (bodyC cfg.P 50)))))))))))))) fr h _
        refine aw_ret (by kernel_rfl) ?_
        exact Exists.intro _ (And.intro (Option.some.inj hm).symm (fun e => Or.inr (Or.inl ⟨false, rfl, e, rfl, H.less _ (fun fr => by kernel_rfl)⟩)))
      · replace H := H.know 12 hb (by kernel_rfl)
        refine aw_false (x := .tmp 12) (by kernel_rfl) H (fun fr => by kernel_rfl) ?_
        refine aw_skip (by kernel_rfl) ?_
        show AW cfg 50 (⟨h.size, []⟩ : Gd) (right (right (right (left (left (right (left (right (bodyC cfg.P 50))))))))) fr h _
        refine aw_reg (id := 6) (n := 2) [(0, []), (1, [])] (by kernel_rfl) (by kernel_rfl) ?_
        refine at_seg [(0, []), (1, [])] [(0, .str p0), (5, .int .i64 (p0.length : Int)), (6, .int .i64 (IntKind.i64.wrap (x3 + (1 : Int))))] H (noU_all rfl) (fun fr => by kernel_rfl) ?_
        intro fr H
        refine at_nil ?_
        exact Exists.intro (IntKind.i64.wrap (x3 + (1 : Int))) (And.intro (Option.some.inj hm).symm ⟨IntKind.i64.wrap (x3 + (1 : Int)), rfl, rfl, H.less _ (fun fr => by kernel_rfl)⟩)
    · replace H := H.know 7 hb (by kernel_rfl)
      refine aw_false (x := .tmp 7) (by kernel_rfl) H (fun fr => by kernel_rfl) ?_
      refine aw_exit (i := 0) (by kernel_rfl) ?_
      exact Exists.intro _ (And.intro (Option.some.inj hm).symm (fun e => Or.inl ⟨rfl, e, rfl, H.less _ (fun fr => by kernel_rfl)⟩))
  · clear ho
    intro e fr hz hQ
    rcases hQ with ⟨rfl, rfl, rfl, H⟩ | ⟨x2, rfl, rfl, rfl, H⟩ | hF
    · skip
      show AW cfg 50 (⟨h.size, []⟩ : Gd) (right (right (bodyC cfg.P 50))) fr h _
      refine aw_seq (by kernel_rfl) ?_
      refine aw_reg (id := 7) (n := 4) [(0, []), (1, []), (2, []), (3, [])] (by kernel_rfl) (by kernel_rfl) ?_
      refine at_seg [(0, []), (1, []), (2, []), (3, [])] [(2, .bool ((p0.length : Int) == (512 : Int)))] H (noU_all rfl) (fun fr => by kernel_rfl) ?_
      intro fr H
      refine at_nil ?_
      show AW cfg 50 (⟨h.size, []⟩ : Gd) (right (right (right (bodyC cfg.P 50)))) fr h _
      refine aw_ret (by kernel_rfl) ?_
      have e1 := Option.some.inj hm
      subst e1
      exact (doneE_of .ret H (fun fr => by kernel_rfl) (.inl rfl) : doneE cfg.P _ _ _ fr _)
    · skip
      have e1 := Option.some.inj hm
      subst e1
      exact (doneE_of .ret H (fun fr => by kernel_rfl) (.inl rfl) : doneE cfg.P _ _ _ fr _)
    · exact hF.elim
/-! ### boulter/sums.Sum -/
noncomputable def M_sums_Sum (h : AHeap) (p0 : List UInt8) : Option (Int × Int) :=
 iteB ((p0.length : Int) != (512 : Int)) (some ((0 : Int), (1 : Int))) ((M_sums_both (⟨h.size, []⟩ : Gd) h p0).bind fun (x1, h1) => ((ixG x1 2 1 (0 : Int)).bind (asI .i64)).bind fun x2 => some (x2, (0 : Int)))
theorem ok_sums_Sum {g : Gd} {h : AHeap} {p0 : List UInt8} {r0 : Int} {r1 : Int} (hm : M_sums_Sum h p0 = some (r0, r1)) : Runs cfg g h 54 [.str p0] (.tuple [.int .i64 r0, .int .i64 r1]) h := by
  refine runs2E (by kernel_rfl) (by kernel_rfl) (body_ofE (n := 10) (rs := [.tmp 2, .tmp 3]) (by kernel_rfl) ?_)
  unfold M_sums_Sum at hm
  refine start (n := 10) [(0, .str p0)] (by kernel_rfl) (by kernel_rfl) ?_
  intro fr H
  refine aw_seq (by kernel_rfl) ?_
  refine aw_reg (id := 0) (n := 2) [(0, []), (1, [])] (by kernel_rfl) (by kernel_rfl) ?_
  refine at_seg [(0, []), (1, [])] [(0, .str p0)] H (noU_all rfl) (fun fr => by kernel_rfl) ?_
  intro fr H
  refine at_nil ?_
  show AW cfg 54 (⟨h.size, []⟩ : Gd) (right (bodyC cfg.P 54)) fr h _
  refine aw_seq (by kernel_rfl) ?_
  refine aw_seq (by kernel_rfl) ?_
  refine aw_reg (id := 1) (n := 3) [(0, []), (1, []), (2, [])] (by kernel_rfl) (by kernel_rfl) ?_
  refine at_seg [(0, []), (1, []), (2, [])] [(0, .str p0), (6, .bool ((p0.length : Int) != (512 : Int)))] H (noU_all rfl) (fun fr => by kernel_rfl) ?_
  intro fr H
  refine at_nil ?_
  show AW cfg 54 (⟨h.size, []⟩ : Gd) (right (left (right (bodyC cfg.P 54)))) fr h _
  rcases iteB_some hm with ⟨hb, hm⟩ | ⟨hb, hm⟩
  · replace H := H.know 6 hb (by kernel_rfl)
    refine aw_true (x := .tmp 6) (by kernel_rfl) H (fun fr => by kernel_rfl) ?_
    refine aw_seq (by kernel_rfl) ?_
    refine aw_reg (id := 2) (n := 2) [(0, []), (1, [])] (by kernel_rfl) (by kernel_rfl) ?_
    refine at_seg [(0, []), (1, [])] [(2, .int .i64 (0 : Int)), (3, .int .i64 (1 : Int))] H (noU_all rfl) (fun fr => by kernel_rfl) ?_
    intro fr H
    refine at_nil ?_
    show AW cfg 54 (⟨h.size, []⟩ : Gd) (right (left (right (left (right (bodyC cfg.P 54)))))) fr h _
    refine aw_ret (by kernel_rfl) ?_
    have e1 := Option.some.inj hm
    obtain ⟨u0, v0⟩ := Prod.mk.inj e1
    subst u0
    subst v0
    exact (doneE_of .ret H (fun fr => by kernel_rfl) (.inl rfl) : doneE cfg.P _ _ _ fr _)
  · replace H := H.know 6 hb (by kernel_rfl)
    refine aw_false (x := .tmp 6) (by kernel_rfl) H (fun fr => by kernel_rfl) ?_
    refine aw_skip (by kernel_rfl) ?_
    show AW cfg 54 (⟨h.size, []⟩ : Gd) (right (right (bodyC cfg.P 54))) fr h _
    refine aw_seq (by kernel_rfl) ?_
    refine aw_reg (id := 3) (n := 5) [(0, []), (1, []), (2, []), (3, []), (4, [])] (by kernel_rfl) (by kernel_rfl) ?_
    refine at_seg [(0, [])] [(7, .str p0)] H (noU_all rfl) (fun fr => by kernel_rfl) ?_
    intro fr H
    obtain ⟨⟨x1, h1⟩, hx, hm⟩ := bind_some hm
    refine at_step (v := .agg x1) (h1 := h1) [(8, .agg x1)] H (fun fr => by kernel_rfl) (fun fr => Steps.call (by kernel_rfl) (ok_sums_both hx)) ?_
    intro fr t H
    obtain ⟨x2, hx, hm⟩ := bind_some hm
    obtain ⟨u, hx, hu⟩ := bind_some hx
    have hu := asI_eq hu
    subst hu
    refine at_step (v := .int .i64 x2) (h1 := h1) [(9, .int .i64 x2)] H (fun fr => by kernel_rfl) (fun fr => .of (s_ixG (by kernel_rfl) hx)) ?_
    intro fr t H
    refine at_seg [(3, []), (4, [])] [(2, .int .i64 x2), (3, .int .i64 (0 : Int))] H (noU_all rfl) (fun fr => by kernel_rfl) ?_
    intro fr H
    refine at_nil ?_
    show AW cfg 54 (⟨h.size, []⟩ : Gd) (right (right (right (bodyC cfg.P 54)))) fr h1 _
    refine aw_ret (by kernel_rfl) ?_
    have e1 := Option.some.inj hm
    obtain ⟨u0, v0⟩ := Prod.mk.inj e1
    subst u0
    subst v0
    exact (doneE_of .ret H (fun fr => by kernel_rfl) (.inl rfl) : doneE cfg.P _ _ _ fr _)
/-! ### boulter/sums.Signed -/
noncomputable def M_sums_Signed (h : AHeap) (p0 : List UInt8) : Option (Int × Int) :=
 iteB ((p0.length : Int) != (512 : Int)) (some ((0 : Int), (1 : Int))) ((M_sums_both (⟨h.size, []⟩ : Gd) h p0).bind fun (x1, h1) => ((ixG x1 2 1 (1 : Int)).bind (asI .i64)).bind fun x2 => some (x2, (0 : Int)))
theorem ok_sums_Signed {g : Gd} {h : AHeap} {p0 : List UInt8} {r0 : Int} {r1 : Int} (hm : M_sums_Signed h p0 = some (r0, r1)) : Runs cfg g h 55 [.str p0] (.tuple [.int .i64 r0, .int .i64 r1]) h := by
  refine runs2E (by kernel_rfl) (by kernel_rfl) (body_ofE (n := 10) (rs := [.tmp 2, .tmp 3]) (by kernel_rfl) ?_)
  unfold M_sums_Signed at hm
  refine start (n := 10) [(0, .str p0)] (by kernel_rfl) (by kernel_rfl) ?_
  intro fr H
  refine aw_seq (by kernel_rfl) ?_
  refine aw_reg (id := 0) (n := 2) [(0, []), (1, [])] (by kernel_rfl) (by kernel_rfl) ?_
  refine at_seg [(0, []), (1, [])] [(0, .str p0)] H (noU_all rfl) (fun fr => by kernel_rfl) ?_
  intro fr H
  refine at_nil ?_
  show AW cfg 55 (⟨h.size, []⟩ : Gd) (right (bodyC cfg.P 55)) fr h _
  refine aw_seq (by kernel_rfl) ?_
  refine aw_seq (by kernel_rfl) ?_
  refine aw_reg (id := 1) (n := 3) [(0, []), (1, []), (2, [])] (by kernel_rfl) (by kernel_rfl) ?_
  refine at_seg [(0, []), (1, []), (2, [])] [(0, .str p0), (6, .bool ((p0.length : Int) != (512 : Int)))] H (noU_all rfl) (fun fr => by kernel_rfl) ?_
  intro fr H
  refine at_nil ?_
  show AW cfg 55 (⟨h.size, []⟩ : Gd) (right (left (right (bodyC cfg.P 55)))) fr h _
  rcases iteB_some hm with ⟨hb, hm⟩ | ⟨hb, hm⟩
  · replace H := H.know 6 hb (by kernel_rfl)
    refine aw_true (x := .tmp 6) (by kernel_rfl) H (fun fr => by kernel_rfl) ?_
    refine aw_seq (by kernel_rfl) ?_
    refine aw_reg (id := 2) (n := 2) [(0, []), (1, [])] (by kernel_rfl) (by kernel_rfl) ?_
    refine at_seg [(0, []), (1, [])] [(2, .int .i64 (0 : Int)), (3, .int .i64 (1 : Int))] H (noU_all rfl) (fun fr => by kernel_rfl) ?_
    intro fr H
    refine at_nil ?_
    show AW cfg 55 (⟨h.size, []⟩ : Gd) (right (left (right (left (right (bodyC cfg.P 55)))))) fr h _
    refine aw_ret (by kernel_rfl) ?_
    have e1 := Option.some.inj hm
    obtain ⟨u0, v0⟩ := Prod.mk.inj e1
    subst u0
    subst v0
    exact (doneE_of .ret H (fun fr => by kernel_rfl) (.inl rfl) : doneE cfg.P _ _ _ fr _)
  · replace H := H.know 6 hb (by kernel_rfl)
    refine aw_false (x := .tmp 6) (by kernel_rfl) H (fun fr => by kernel_rfl) ?_
    refine aw_skip (by kernel_rfl) ?_
    show AW cfg 55 (⟨h.size, []⟩ : Gd) (right (right (bodyC cfg.P 55))) fr h _
    refine aw_seq (by kernel_rfl) ?_
    refine aw_reg (id := 3) (n := 5) [(0, []), (1, []), (2, []), (3, []), (4, [])] (by kernel_rfl) (by kernel_rfl) ?_
    refine at_seg [(0, [])] [(7, .str p0)] H (noU_all rfl) (fun fr => by kernel_rfl) ?_
    intro fr H
    obtain ⟨⟨x1, h1⟩, hx, hm⟩ := bind_some hm
    refine at_step (v := .agg x1) (h1 := h1) [(8, .agg x1)] H (fun fr => by kernel_rfl) (fun fr => Steps.call (by kernel_rfl) (ok_sums_both hx)) ?_
    intro fr t H
    obtain ⟨x2, hx, hm⟩ := bind_some hm
    obtain ⟨u, hx, hu⟩ := bind_some hx
    have hu := asI_eq hu
    subst hu
    refine at_step (v := .int .i64 x2) (h1 := h1) [(9, .int .i64 x2)] H (fun fr => by kernel_rfl) (fun fr => .of (s_ixG (by kernel_rfl) hx)) ?_
    intro fr t H
    refine at_seg [(3, []), (4, [])] [(2, .int .i64 x2), (3, .int .i64 (0 : Int))] H (noU_all rfl) (fun fr => by kernel_rfl) ?_
    intro fr H
    refine at_nil ?_
    show AW cfg 55 (⟨h.size, []⟩ : Gd) (right (right (right (bodyC cfg.P 55)))) fr h1 _
    refine aw_ret (by kernel_rfl) ?_
    have e1 := Option.some.inj hm
    obtain ⟨u0, v0⟩ := Prod.mk.inj e1
    subst u0
    subst v0
    exact (doneE_of .ret H (fun fr => by kernel_rfl) (.inl rfl) : doneE cfg.P _ _ _ fr _)
end Go.Abs.L
