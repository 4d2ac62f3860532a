/-
  Models of functions, and that the abstract run tells them. Written by lift2.py.
-/
import Derived.Test.YtcmfogjpkkodbaaKCfg
import Derived.Test.YtcmfogjpkkodbaaK0
import Derived.Test.YtcmfogjpkkodbaaK1
namespace Go.Av.L
open Go.Av Go.Lib
set_option maxRecDepth 10000
set_option linter.unusedVariables false
set_option linter.unusedSimpArgs false
/-! ### slices.stableCmpFunc[boulter/api.Member] -/
noncomputable def M_slices_stableCmpFunc_boulter_api_Member_sOIF_04e2_L0 (p1 : Int) (s : (List S_api_Member) × Int × Int) : Option (((List S_api_Member) × Int × Int) ⊕ (((List S_api_Member) × Int))) :=
  match s with
  | (x1, x2, x3) => iteB (decide (x3 ≤ p1)) ((M_slices_insertionSortCmpFunc_boulter_api_Member_sOIIF_8ba1 x1 x2 x3).bind fun x6 => some (.inl (x6, x3, IntKind.i64.wrap (x3 + (20 : Int))))) (some (.inr (x1, x2)))
noncomputable def M_slices_stableCmpFunc_boulter_api_Member_sOIF_04e2_L2 (p1 : Int) (s : Int × Int) : Option ((Int × Int) ⊕ ((Int))) :=
  match s with
  | (x9, x10) => iteB (decide (x10 ≤ p1)) (none) (some (.inr x9))
noncomputable def M_slices_stableCmpFunc_boulter_api_Member_sOIF_04e2_L1 (p1 : Int) (s : Int) : Option ((Int) ⊕ ((Unit))) :=
  match s with
  | x8 => iteB (decide (x8 < p1)) ((loop (M_slices_stableCmpFunc_boulter_api_Member_sOIF_04e2_L2 p1) ((0 : Int), IntKind.i64.wrap ((2 : Int) * x8))).bind fun x11 => (iteB (decide ((IntKind.i64.wrap (x11 + x8)) < p1)) (none) (some ()) : Option ((Unit))).bind fun _ => some (.inl (IntKind.i64.wrap (x8 * (2 : Int))))) (some (.inr ()))
noncomputable def M_slices_stableCmpFunc_boulter_api_Member_sOIF_04e2 (p0 : List S_api_Member) (p1 : Int) : Option ((List S_api_Member)) :=
 (loop (M_slices_stableCmpFunc_boulter_api_Member_sOIF_04e2_L0 p1) (p0, (0 : Int), (20 : Int))).bind fun (x4, x5) => (M_slices_insertionSortCmpFunc_boulter_api_Member_sOIIF_8ba1 x4 x5 p1).bind fun x7 => (loop (M_slices_stableCmpFunc_boulter_api_Member_sOIF_04e2_L1 p1) (20 : Int)).bind fun _ => some x7
theorem ok_slices_stableCmpFunc_boulter_api_Member_sOIF_04e2 {g : Gd} {h : AHeap} {F : List Ck} {p0 : List S_api_Member} {p1 : Int} {rp0 : Option Nat} {u0 : List S_api_Member} {av : List AVal} (hm : M_slices_stableCmpFunc_boulter_api_Member_sOIF_04e2 p0 p1 = some u0) (hc : canL (cfg.still 82) av = [rowV rp0 p0.length, .int .i64 p1, .func (.func 74) [] []]) (A : HH g h [.lst rp0 63 (lst e_S_api_Member p0)] F) : ∃ v h', Runs cfg g h 82 av v h' ∧ ∃ (hl'0 : u0.length = p0.length), v = .tuple [] ∧ HH g h' [.lst rp0 63 (lst e_S_api_Member u0)] F := by
  refine runsQ1 (n := 63) (rs := []) (by kernel_rfl) hc (by kernel_rfl) ?_
  clear hc
  unfold M_slices_stableCmpFunc_boulter_api_Member_sOIF_04e2 at hm
  refine start (n := 63) [(0, rowV rp0 p0.length), (1, .int .i64 p1), (2, .func (.func 74) [] [])] (by kernel_rfl) (by kernel_rfl) ?_
  intro fr H
  refine aw_seq (by kernel_rfl) ?_
  refine aw_reg (id := 0) (n := 1) [(0, [])] (by kernel_rfl) (by kernel_rfl) ?_
  refine at_seg [(0, [])] [(0, rowV rp0 p0.length), (1, .int .i64 p1), (2, .func (.func 74) [] []), (6, .int .i64 (20 : Int))] H (noU_all rfl) (fun fr => by kernel_rfl) ?_
  intro fr H
  refine at_nil ?_
  show AW cfg 82 g (right (bodyC cfg.P 82)) fr h _
  refine aw_seq (by kernel_rfl) ?_
  refine aw_reg (id := 1) (n := 3) [(0, []), (1, []), (2, [])] (by kernel_rfl) (by kernel_rfl) ?_
  refine at_seg [(0, []), (1, []), (2, [])] [(0, rowV rp0 p0.length), (1, .int .i64 p1), (2, .func (.func 74) [] []), (6, .int .i64 (20 : Int)), (7, .int .i64 (0 : Int)), (8, .int .i64 (20 : Int))] H (noU_all rfl) (fun fr => by kernel_rfl) ?_
  intro fr H
  refine at_nil ?_
  show AW cfg 82 g (right (right (bodyC cfg.P 82))) fr h _
  refine aw_seq (by kernel_rfl) ?_
  refine aw_block (id := 0) (by kernel_rfl) ?_
  obtain ⟨o1, ho, hm⟩ := bind_some hm
  refine aw_mono (Q' := fun e fr' h' => (∃ (x4 : List S_api_Member) (x5 : Int), e = .exit 0 ∧ (x4, x5) = o1 ∧ ∃ (hl2 : x4.length = p0.length), Has fr' 63 [(0, rowV rp0 x4.length), (1, .int .i64 p1), (2, .func (.func 74) [] []), (6, .int .i64 (20 : Int)), (7, .int .i64 x5)] ∧ HH g h' [.lst rp0 63 (lst e_S_api_Member x4)] F) ∨ False) ?_ ?_
  · refine aw_loop (by kernel_rfl) (fun (s : (List S_api_Member) × Int × Int) fr' h' => ∃ (x1 : List S_api_Member) (x2 : Int) (x3 : Int), (x1, x2, x3) = s ∧ ∃ (hl1 : x1.length = p0.length), Has fr' 63 [(0, rowV rp0 x1.length), (1, .int .i64 p1), (2, .func (.func 74) [] []), (6, .int .i64 (20 : Int)), (7, .int .i64 x2), (8, .int .i64 x3)] ∧ HH g h' [.lst rp0 63 (lst e_S_api_Member x1)] F) ho ⟨p0, (0 : Int), (20 : Int), rfl, rfl, H.less _ (fun fr => by kernel_rfl), A⟩ ?_
    clear ho hm H A
    intro s q fr h1 hI hm
    obtain ⟨x1, x2, x3, rfl, hl1, H, A⟩ := hI
    unfold M_slices_stableCmpFunc_boulter_api_Member_sOIF_04e2_L0 at hm
    refine aw_seq (by kernel_rfl) ?_
    refine aw_seq (by kernel_rfl) ?_
    refine aw_reg (id := 2) (n := 3) [(0, []), (1, []), (2, [])] (by kernel_rfl) (by kernel_rfl) ?_
    refine at_seg [(0, []), (1, []), (2, [])] [(0, rowV rp0 x1.length), (1, .int .i64 p1), (2, .func (.func 74) [] []), (6, .int .i64 (20 : Int)), (7, .int .i64 x2), (8, .int .i64 x3), (13, .bool (decide (x3 ≤ p1)))] H (noU_all rfl) (fun fr => by kernel_rfl) ?_
    intro fr H
    refine at_nil ?_
    show AW cfg 82 g (right (left (left (left (left (right (right (bodyC cfg.P 82)))))))) fr h1 _
    rcases iteB_some hm with ⟨hb, hm⟩ | ⟨hb, hm⟩
    · replace H := H.know 13 hb (by kernel_rfl)
      refine aw_true (x := .tmp 13) (by kernel_rfl) H (fun fr => by kernel_rfl) ?_
      refine aw_skip (by kernel_rfl) ?_
      show AW cfg 82 g (right (left (left (left (right (right (bodyC cfg.P 82))))))) fr h1 _
      refine aw_block (id := 1) (by kernel_rfl) ?_
      refine aw_seq (by kernel_rfl) ?_
      refine aw_reg (id := 3) (n := 5) [(0, []), (1, []), (2, []), (3, []), (4, [])] (by kernel_rfl) (by kernel_rfl) ?_
      refine at_seg [(0, []), (1, []), (2, []), (3, [])] [(0, rowV rp0 x1.length), (1, .int .i64 p1), (2, .func (.func 74) [] []), (6, .int .i64 (20 : Int)), (8, .int .i64 x3), (14, rowV rp0 x1.length), (15, .int .i64 x2), (16, .int .i64 x3), (17, .func (.func 74) [] [])] H (noU_all rfl) (fun fr => by kernel_rfl) ?_
      intro fr H
      have A1 := A.cut 1
      obtain ⟨x6, hx, hm⟩ := bind_some hm
      obtain ⟨v1, h2, hr, hl3, rfl, A1⟩ := ok_slices_insertionSortCmpFunc_boulter_api_Member_sOIIF_8ba1 (av := [rowV rp0 x1.length, .int .i64 x2, .int .i64 x3, .func (.func 74) [] []]) hx (by kernel_rfl) A1
      have hl4 : x6.length = p0.length := hl3.trans hl1
      have el : rowV rp0 x1.length = rowV rp0 x6.length := congrArg _ hl3.symm
      try rw [el] at H
      try rw [el] at hr
      try rw [el] at A1
      replace A : HH g h2 [.lst rp0 63 (lst e_S_api_Member x6)] F := A.glue0 (n := 1) A1
      refine at_step (v := .tuple []) (h1 := h2) [(0, rowV rp0 x6.length), (1, .int .i64 p1), (2, .func (.func 74) [] []), (6, .int .i64 (20 : Int)), (8, .int .i64 x3)] H (fun fr => by kernel_rfl) (fun fr => Steps.call (by kernel_rfl) hr) ?_
      intro fr t H
      refine at_nil ?_
      show AW cfg 82 g (right (left (right (left (left (left (right (right (bodyC cfg.P 82))))))))) fr h2 _
      refine aw_seq (by kernel_rfl) ?_
      refine aw_reg (id := 4) (n := 2) [(0, []), (1, [])] (by kernel_rfl) (by kernel_rfl) ?_
      refine at_seg [(0, []), (1, [])] [(0, rowV rp0 x6.length), (1, .int .i64 p1), (2, .func (.func 74) [] []), (6, .int .i64 (20 : Int)), (7, .int .i64 x3), (8, .int .i64 x3)] H (noU_all rfl) (fun fr => by kernel_rfl) ?_
      intro fr H
      refine at_nil ?_
      show AW cfg 82 g (right (right (left (right (left (left (left (right (right (bodyC cfg.P 82)))))))))) fr h2 _
      refine aw_reg (id := 5) (n := 4) [(0, []), (1, []), (2, []), (3, [])] (by kernel_rfl) (by kernel_rfl) ?_
      refine at_seg [(0, []), (1, []), (2, []), (3, [])] [(0, rowV rp0 x6.length), (1, .int .i64 p1), (2, .func (.func 74) [] []), (6, .int .i64 (20 : Int)), (7, .int .i64 x3), (8, .int .i64 (IntKind.i64.wrap (x3 + (20 : Int))))] H (noU_all rfl) (fun fr => by kernel_rfl) ?_
      intro fr H
      refine at_nil ?_
      exact Exists.intro (x6, x3, IntKind.i64.wrap (x3 + (20 : Int))) (And.intro (Option.some.inj hm).symm ⟨x6, x3, IntKind.i64.wrap (x3 + (20 : Int)), rfl, hl4, H.less _ (fun fr => by kernel_rfl), A⟩)
    · replace H := H.know 13 hb (by kernel_rfl)
      refine aw_false (x := .tmp 13) (by kernel_rfl) H (fun fr => by kernel_rfl) ?_
      refine aw_exit (i := 0) (by kernel_rfl) ?_
      exact Exists.intro _ (And.intro (Option.some.inj hm).symm (fun e => Or.inl ⟨x1, x2, rfl, e, hl1, H.less _ (fun fr => by kernel_rfl), A⟩))
  · clear ho
    clear A
    intro e fr h3 hQ
    rcases hQ with ⟨x4, x5, rfl, rfl, hl2, H, A⟩ | hF
    · skip
      show AW cfg 82 g (right (right (right (bodyC cfg.P 82)))) fr h3 _
      refine aw_seq (by kernel_rfl) ?_
      refine aw_reg (id := 6) (n := 5) [(0, []), (1, []), (2, []), (3, []), (4, [])] (by kernel_rfl) (by kernel_rfl) ?_
      refine at_seg [(0, []), (1, []), (2, []), (3, [])] [(0, rowV rp0 x4.length), (1, .int .i64 p1), (2, .func (.func 74) [] []), (6, .int .i64 (20 : Int)), (23, rowV rp0 x4.length), (24, .int .i64 x5), (25, .int .i64 p1), (26, .func (.func 74) [] [])] H (noU_all rfl) (fun fr => by kernel_rfl) ?_
      intro fr H
      have A1 := A.cut 1
      obtain ⟨x7, hx, hm⟩ := bind_some hm
      obtain ⟨v1, h4, hr, hl5, rfl, A1⟩ := ok_slices_insertionSortCmpFunc_boulter_api_Member_sOIIF_8ba1 (av := [rowV rp0 x4.length, .int .i64 x5, .int .i64 p1, .func (.func 74) [] []]) hx (by kernel_rfl) A1
      have hl6 : x7.length = p0.length := hl5.trans hl2
      have el : rowV rp0 x4.length = rowV rp0 x7.length := congrArg _ hl5.symm
      try rw [el] at H
      try rw [el] at hr
      try rw [el] at A1
      replace A : HH g h4 [.lst rp0 63 (lst e_S_api_Member x7)] F := A.glue0 (n := 1) A1
      refine at_step (v := .tuple []) (h1 := h4) [(0, rowV rp0 x7.length), (1, .int .i64 p1), (2, .func (.func 74) [] []), (6, .int .i64 (20 : Int))] H (fun fr => by kernel_rfl) (fun fr => Steps.call (by kernel_rfl) hr) ?_
      intro fr t H
      refine at_nil ?_
      show AW cfg 82 g (right (right (right (right (bodyC cfg.P 82))))) fr h4 _
      refine aw_block (id := 2) (by kernel_rfl) ?_
      obtain ⟨o2, ho, hm⟩ := bind_some hm
      refine aw_mono (Q' := fun e fr' h' => (e = .exit 2 ∧ () = o2 ∧ Has fr' 63 [] ∧ HH g h' [.lst rp0 63 (lst e_S_api_Member x7)] F) ∨ False) ?_ ?_
      · refine aw_loop (by kernel_rfl) (fun (s : Int) fr' h' => ∃ (x8 : Int), x8 = s ∧ Has fr' 63 [(0, rowV rp0 x7.length), (1, .int .i64 p1), (2, .func (.func 74) [] []), (6, .int .i64 x8)] ∧ HH g h' [.lst rp0 63 (lst e_S_api_Member x7)] F) ho ⟨(20 : Int), rfl, H.less _ (fun fr => by kernel_rfl), A⟩ ?_
        clear ho hm H A
        intro s q fr h5 hI hm
        obtain ⟨x8, rfl, H, A⟩ := hI
        unfold M_slices_stableCmpFunc_boulter_api_Member_sOIF_04e2_L1 at hm
        refine aw_seq (by kernel_rfl) ?_
        refine aw_seq (by kernel_rfl) ?_
        refine aw_reg (id := 7) (n := 3) [(0, []), (1, []), (2, [])] (by kernel_rfl) (by kernel_rfl) ?_
        refine at_seg [(0, []), (1, []), (2, [])] [(0, rowV rp0 x7.length), (1, .int .i64 p1), (2, .func (.func 74) [] []), (6, .int .i64 x8), (30, .bool (decide (x8 < p1)))] H (noU_all rfl) (fun fr => by kernel_rfl) ?_
        intro fr H
        refine at_nil ?_
        show AW cfg 82 g (right (left (left (left (right (right (right (right (bodyC cfg.P 82))))))))) fr h5 _
        rcases iteB_some hm with ⟨hb, hm⟩ | ⟨hb, hm⟩
        · replace H := H.know 30 hb (by kernel_rfl)
          refine aw_true (x := .tmp 30) (by kernel_rfl) H (fun fr => by kernel_rfl) ?_
          refine aw_skip (by kernel_rfl) ?_
          show AW cfg 82 g (right (left (left (right (right (right (right (bodyC cfg.P 82)))))))) fr h5 _
          refine aw_block (id := 3) (by kernel_rfl) ?_
          refine aw_seq (by kernel_rfl) ?_
          refine aw_reg (id := 8) (n := 4) [(0, []), (1, []), (2, []), (3, [])] (by kernel_rfl) (by kernel_rfl) ?_
          refine at_seg [(0, []), (1, []), (2, []), (3, [])] [(0, rowV rp0 x7.length), (1, .int .i64 p1), (2, .func (.func 74) [] []), (6, .int .i64 x8), (7, .int .i64 (0 : Int)), (8, .int .i64 (IntKind.i64.wrap ((2 : Int) * x8)))] H (noU_all rfl) (fun fr => by kernel_rfl) ?_
          intro fr H
          refine at_nil ?_
          show AW cfg 82 g (right (left (right (left (left (right (right (right (right (bodyC cfg.P 82)))))))))) fr h5 _
          refine aw_seq (by kernel_rfl) ?_
          refine aw_block (id := 4) (by kernel_rfl) ?_
          obtain ⟨o3, ho, hm⟩ := bind_some hm
          refine aw_mono (Q' := fun e fr' h' => (∃ (x11 : Int), e = .exit 4 ∧ x11 = o3 ∧ Has fr' 63 [(0, rowV rp0 x7.length), (1, .int .i64 p1), (2, .func (.func 74) [] []), (6, .int .i64 x8), (7, .int .i64 x11)] ∧ HH g h' [.lst rp0 63 (lst e_S_api_Member x7)] F) ∨ False) ?_ ?_
          · refine aw_loop (by kernel_rfl) (fun (s : Int × Int) fr' h' => ∃ (x9 : Int) (x10 : Int), (x9, x10) = s ∧ Has fr' 63 [(0, rowV rp0 x7.length), (1, .int .i64 p1), (2, .func (.func 74) [] []), (6, .int .i64 x8), (7, .int .i64 x9), (8, .int .i64 x10)] ∧ HH g h' [.lst rp0 63 (lst e_S_api_Member x7)] F) ho ⟨(0 : Int), IntKind.i64.wrap ((2 : Int) * x8), rfl, H.less _ (fun fr => by kernel_rfl), A⟩ ?_
            clear ho hm H A
            intro s q fr h6 hI hm
            obtain ⟨x9, x10, rfl, H, A⟩ := hI
            unfold M_slices_stableCmpFunc_boulter_api_Member_sOIF_04e2_L2 at hm
            refine aw_seq (by kernel_rfl) ?_
            refine aw_seq (by kernel_rfl) ?_
            refine aw_reg (id := 9) (n := 3) [(0, []), (1, []), (2, [])] (by kernel_rfl) (by kernel_rfl) ?_
            refine at_seg [(0, []), (1, []), (2, [])] [(0, rowV rp0 x7.length), (1, .int .i64 p1), (2, .func (.func 74) [] []), (6, .int .i64 x8), (7, .int .i64 x9), (8, .int .i64 x10), (35, .bool (decide (x10 ≤ p1)))] H (noU_all rfl) (fun fr => by kernel_rfl) ?_
            intro fr H
            refine at_nil ?_
            show AW cfg 82 g (right (left (left (left (left (right (left (right (left (left (right (right (right (right (bodyC cfg.P 82))))))))))))))) fr h6 _
            rcases iteB_some hm with ⟨hb, hm⟩ | ⟨hb, hm⟩
            · replace H := H.know 35 hb (by kernel_rfl)
              refine aw_true (x := .tmp 35) (by kernel_rfl) H (fun fr => by kernel_rfl) ?_
              refine aw_skip (by kernel_rfl) ?_
              show AW cfg 82 g (right (left (left (left (right (left (right (left (left (right (right (right (right (bodyC cfg.P 82)))))))))))))) fr h6 _
              refine aw_block (id := 5) (by kernel_rfl) ?_
              refine aw_seq (by kernel_rfl) ?_
              refine aw_reg (id := 10) (n := 8) [(0, []), (1, []), (2, []), (3, []), (4, []), (5, []), (6, []), (7, [])] (by kernel_rfl) (by kernel_rfl) ?_
              refine at_seg [(0, []), (1, []), (2, []), (3, []), (4, []), (5, []), (6, [])] [(0, rowV rp0 x7.length), (1, .int .i64 p1), (2, .func (.func 74) [] []), (6, .int .i64 x8), (8, .int .i64 x10), (36, rowV rp0 x7.length), (37, .int .i64 x9), (40, .int .i64 (IntKind.i64.wrap (x9 + x8))), (41, .int .i64 x10), (42, .func (.func 74) [] [])] H (noU_all rfl) (fun fr => by kernel_rfl) ?_
              intro fr H
              cases hm
            · replace H := H.know 35 hb (by kernel_rfl)
              refine aw_false (x := .tmp 35) (by kernel_rfl) H (fun fr => by kernel_rfl) ?_
              refine aw_exit (i := 4) (by kernel_rfl) ?_
              exact Exists.intro _ (And.intro (Option.some.inj hm).symm (fun e => Or.inl ⟨x9, rfl, e, H.less _ (fun fr => by kernel_rfl), A⟩))
          · clear ho
            clear A
            intro e fr h7 hQ
            rcases hQ with ⟨x11, rfl, rfl, H, A⟩ | hF
            · skip
              show AW cfg 82 g (right (right (left (right (left (left (right (right (right (right (bodyC cfg.P 82))))))))))) fr h7 _
              refine aw_seq (by kernel_rfl) ?_
              obtain ⟨o4, ho, hm⟩ := bind_some hm
              refine aw_mono (Q' := fun e fr' h' => (e = .normal ∧ () = o4 ∧ Has fr' 63 [(0, rowV rp0 x7.length), (1, .int .i64 p1), (2, .func (.func 74) [] []), (6, .int .i64 x8)] ∧ HH g h' [.lst rp0 63 (lst e_S_api_Member x7)] F) ∨ False) ?_ ?_
              · replace hm := ho
                clear ho
                refine aw_seq (by kernel_rfl) ?_
                refine aw_reg (id := 13) (n := 4) [(0, []), (1, []), (2, []), (3, [])] (by kernel_rfl) (by kernel_rfl) ?_
                refine at_seg [(0, []), (1, []), (2, []), (3, [])] [(0, rowV rp0 x7.length), (1, .int .i64 p1), (2, .func (.func 74) [] []), (6, .int .i64 x8), (7, .int .i64 x11), (9, .int .i64 (IntKind.i64.wrap (x11 + x8)))] H (noU_all rfl) (fun fr => by kernel_rfl) ?_
                intro fr H
                refine at_nil ?_
                show AW cfg 82 g (right (left (right (right (left (right (left (left (right (right (right (right (bodyC cfg.P 82))))))))))))) fr h7 _
                refine aw_seq (by kernel_rfl) ?_
                refine aw_reg (id := 14) (n := 3) [(0, []), (1, []), (2, [])] (by kernel_rfl) (by kernel_rfl) ?_
                refine at_seg [(0, []), (1, []), (2, [])] [(0, rowV rp0 x7.length), (1, .int .i64 p1), (2, .func (.func 74) [] []), (6, .int .i64 x8), (7, .int .i64 x11), (9, .int .i64 (IntKind.i64.wrap (x11 + x8))), (54, .bool (decide ((IntKind.i64.wrap (x11 + x8)) < p1)))] H (noU_all rfl) (fun fr => by kernel_rfl) ?_
                intro fr H
                refine at_nil ?_
                show AW cfg 82 g (right (right (left (right (right (left (right (left (left (right (right (right (right (bodyC cfg.P 82)))))))))))))) fr h7 _
                rcases iteB_some hm with ⟨hb, hm⟩ | ⟨hb, hm⟩
                · replace H := H.know 54 hb (by kernel_rfl)
                  refine aw_true (x := .tmp 54) (by kernel_rfl) H (fun fr => by kernel_rfl) ?_
                  refine aw_reg (id := 15) (n := 6) [(0, []), (1, []), (2, []), (3, []), (4, []), (5, [])] (by kernel_rfl) (by kernel_rfl) ?_
                  refine at_seg [(0, []), (1, []), (2, []), (3, []), (4, [])] [(0, rowV rp0 x7.length), (1, .int .i64 p1), (2, .func (.func 74) [] []), (6, .int .i64 x8), (55, rowV rp0 x7.length), (56, .int .i64 x11), (57, .int .i64 (IntKind.i64.wrap (x11 + x8))), (58, .int .i64 p1), (59, .func (.func 74) [] [])] H (noU_all rfl) (fun fr => by kernel_rfl) ?_
                  intro fr H
                  cases hm
                · replace H := H.know 54 hb (by kernel_rfl)
                  refine aw_false (x := .tmp 54) (by kernel_rfl) H (fun fr => by kernel_rfl) ?_
                  refine aw_skip (by kernel_rfl) ?_
                  exact Or.inl ⟨rfl, Option.some.inj hm, H.less _ (fun fr => by kernel_rfl), A⟩
              · clear ho
                clear A
                intro e fr h8 hQ
                rcases hQ with ⟨rfl, rfl, H, A⟩ | hF
                · skip
                  show AW cfg 82 g (right (right (right (left (right (left (left (right (right (right (right (bodyC cfg.P 82)))))))))))) fr h8 _
                  refine aw_reg (id := 16) (n := 3) [(0, []), (1, []), (2, [])] (by kernel_rfl) (by kernel_rfl) ?_
                  refine at_seg [(0, []), (1, []), (2, [])] [(0, rowV rp0 x7.length), (1, .int .i64 p1), (2, .func (.func 74) [] []), (6, .int .i64 (IntKind.i64.wrap (x8 * (2 : Int))))] H (noU_all rfl) (fun fr => by kernel_rfl) ?_
                  intro fr H
                  refine at_nil ?_
                  exact Exists.intro (IntKind.i64.wrap (x8 * (2 : Int))) (And.intro (Option.some.inj hm).symm ⟨IntKind.i64.wrap (x8 * (2 : Int)), rfl, H.less _ (fun fr => by kernel_rfl), A⟩)
                · exact hF.elim
            · exact hF.elim
        · replace H := H.know 30 hb (by kernel_rfl)
          refine aw_false (x := .tmp 30) (by kernel_rfl) H (fun fr => by kernel_rfl) ?_
          refine aw_exit (i := 2) (by kernel_rfl) ?_
          exact Exists.intro _ (And.intro (Option.some.inj hm).symm (fun e => Or.inl ⟨rfl, e, H.less _ (fun fr => by kernel_rfl), A⟩))
      · clear ho
        clear A
        intro e fr h9 hQ
        rcases hQ with ⟨rfl, rfl, H, A⟩ | hF
        · skip
          have e1 := Option.some.inj hm
          subst e1
          refine ⟨.inr rfl, .tuple [], resH H (fun fr => by kernel_rfl), ?_⟩
          exact ⟨hl6, rfl, A⟩
        · exact hF.elim
    · exact hF.elim
/-! ### slices.SortStableFunc[[]boulter/api.Member,boulter/api.Member] -/
noncomputable def M_slices_SortStableFunc_boulter_api_Member_boulter_api_Member_sOF_c496 (p0 : List S_api_Member) : Option ((List S_api_Member)) :=
 (M_slices_stableCmpFunc_boulter_api_Member_sOIF_04e2 p0 (p0.length : Int)).bind fun x1 => some x1
theorem ok_slices_SortStableFunc_boulter_api_Member_boulter_api_Member_sOF_c496 {g : Gd} {h : AHeap} {F : List Ck} {p0 : List S_api_Member} {rp0 : Option Nat} {u0 : List S_api_Member} {av : List AVal} (hm : M_slices_SortStableFunc_boulter_api_Member_boulter_api_Member_sOF_c496 p0 = some u0) (hc : canL (cfg.still 73) av = [rowV rp0 p0.length, .func (.func 74) [] []]) (A : HH g h [.lst rp0 63 (lst e_S_api_Member p0)] F) : ∃ v h', Runs cfg g h 73 av v h' ∧ ∃ (hl'0 : u0.length = p0.length), v = .tuple [] ∧ HH g h' [.lst rp0 63 (lst e_S_api_Member u0)] F := by
  refine runsQ1 (n := 9) (rs := []) (by kernel_rfl) hc (by kernel_rfl) ?_
  clear hc
  unfold M_slices_SortStableFunc_boulter_api_Member_boulter_api_Member_sOF_c496 at hm
  refine start (n := 9) [(0, rowV rp0 p0.length), (1, .func (.func 74) [] [])] (by kernel_rfl) (by kernel_rfl) ?_
  intro fr H
  refine aw_reg (id := 0) (n := 5) [(0, []), (1, []), (2, []), (3, []), (4, [])] (by kernel_rfl) (by kernel_rfl) ?_
  refine at_seg [(0, []), (1, []), (2, []), (3, [])] [(4, rowV rp0 p0.length), (6, .int .i64 (p0.length : Int)), (7, .func (.func 74) [] [])] H (noU_all rfl) (fun fr => by kernel_rfl) ?_
  intro fr H
  have A1 := A.cut 1
  obtain ⟨x1, hx, hm⟩ := bind_some hm
  obtain ⟨v1, h1, hr, hl1, rfl, A1⟩ := ok_slices_stableCmpFunc_boulter_api_Member_sOIF_04e2 (av := [rowV rp0 p0.length, .int .i64 (p0.length : Int), .func (.func 74) [] []]) hx (by kernel_rfl) A1
  have hl2 : x1.length = p0.length := hl1
  have el : rowV rp0 p0.length = rowV rp0 x1.length := congrArg _ hl1.symm
  try rw [el] at H
  try rw [el] at hr
  try rw [el] at A1
  replace A : HH g h1 [.lst rp0 63 (lst e_S_api_Member x1)] F := A.glue0 (n := 1) A1
  refine at_step (v := .tuple []) (h1 := h1) [] H (fun fr => by kernel_rfl) (fun fr => Steps.call (by kernel_rfl) hr) ?_
  intro fr t H
  refine at_nil ?_
  have e1 := Option.some.inj hm
  subst e1
  refine ⟨.inr rfl, .tuple [], resH H (fun fr => by kernel_rfl), ?_⟩
  exact ⟨hl2, rfl, A⟩
/-! ### boulter/delta.byName -/
noncomputable def M_delta_byName_sO (p0 : List S_api_Member) : Option ((List S_api_Member)) :=
 (M_slices_SortStableFunc_boulter_api_Member_boulter_api_Member_sOF_c496 p0).bind fun x1 => some x1
theorem ok_delta_byName_sO {g : Gd} {h : AHeap} {F : List Ck} {p0 : List S_api_Member} {rp0 : Option Nat} {u0 : List S_api_Member} {av : List AVal} (hm : M_delta_byName_sO p0 = some u0) (hc : canL (cfg.still 55) av = [rowV rp0 p0.length]) (A : HH g h [.lst rp0 63 (lst e_S_api_Member p0)] F) : ∃ v h', Runs cfg g h 55 av v h' ∧ ∃ (hl'0 : u0.length = p0.length), v = rowV rp0 u0.length ∧ HH g h' [.lst rp0 63 (lst e_S_api_Member u0)] F := by
  refine runsQ1 (n := 6) (rs := [.tmp 2]) (by kernel_rfl) hc (by kernel_rfl) ?_
  clear hc
  unfold M_delta_byName_sO at hm
  refine start (n := 6) [(0, rowV rp0 p0.length)] (by kernel_rfl) (by kernel_rfl) ?_
  intro fr H
  refine aw_seq (by kernel_rfl) ?_
  refine aw_reg (id := 0) (n := 1) [(0, [])] (by kernel_rfl) (by kernel_rfl) ?_
  refine at_seg [(0, [])] [(0, rowV rp0 p0.length)] H (noU_all rfl) (fun fr => by kernel_rfl) ?_
  intro fr H
  refine at_nil ?_
  show AW cfg 55 g (right (bodyC cfg.P 55)) fr h _
  refine aw_seq (by kernel_rfl) ?_
  refine aw_reg (id := 1) (n := 2) [(0, []), (1, [])] (by kernel_rfl) (by kernel_rfl) ?_
  refine at_seg [(0, [])] [(0, rowV rp0 p0.length), (3, rowV rp0 p0.length)] H (noU_all rfl) (fun fr => by kernel_rfl) ?_
  intro fr H
  have A1 := A.cut 1
  obtain ⟨x1, hx, hm⟩ := bind_some hm
  obtain ⟨v1, h1, hr, hl1, rfl, A1⟩ := ok_slices_SortStableFunc_boulter_api_Member_boulter_api_Member_sOF_c496 (av := [rowV rp0 p0.length, .func (.func 74) [] []]) hx (by kernel_rfl) A1
  have hl2 : x1.length = p0.length := hl1
  have el : rowV rp0 p0.length = rowV rp0 x1.length := congrArg _ hl1.symm
  try rw [el] at H
  try rw [el] at hr
  try rw [el] at A1
  replace A : HH g h1 [.lst rp0 63 (lst e_S_api_Member x1)] F := A.glue0 (n := 1) A1
  refine at_step (v := .tuple []) (h1 := h1) [(0, rowV rp0 x1.length)] H (fun fr => by kernel_rfl) (fun fr => Steps.call (by kernel_rfl) hr) ?_
  intro fr t H
  refine at_nil ?_
  show AW cfg 55 g (right (right (bodyC cfg.P 55))) fr h1 _
  refine aw_seq (by kernel_rfl) ?_
  refine aw_reg (id := 2) (n := 2) [(0, []), (1, [])] (by kernel_rfl) (by kernel_rfl) ?_
  refine at_seg [(0, []), (1, [])] [(2, rowV rp0 x1.length)] H (noU_all rfl) (fun fr => by kernel_rfl) ?_
  intro fr H
  refine at_nil ?_
  show AW cfg 55 g (right (right (right (bodyC cfg.P 55)))) fr h1 _
  refine aw_ret (by kernel_rfl) ?_
  have e1 := Option.some.inj hm
  subst e1
  refine ⟨.inl rfl, rowV rp0 x1.length, resH H (fun fr => by kernel_rfl), ?_⟩
  exact ⟨hl2, rfl, A⟩
/-! ### boulter/delta.Apply -/
noncomputable def M_delta_Apply_L1 (x6 : List (List UInt8)) (s : (List ((List UInt8) × Int)) × Int) : Option (((List ((List UInt8) × Int)) × Int) ⊕ (((List ((List UInt8) × Int))))) :=
  match s with
  | (x7, x8) => iteB (decide (x8 < (x6.length : Int))) ((ixV x6 x8).bind fun x10 => some (.inl ((mdel x7 x10), IntKind.i64.wrap (x8 + (1 : Int))))) (some (.inr x7))
noncomputable def M_delta_Apply_L0 (p1 : S_delta_Diff) (s : (List ((List UInt8) × Int)) × Int) : Option (((List ((List UInt8) × Int)) × Int) ⊕ (((List ((List UInt8) × Int))))) :=
  match s with
  | (x3, x4) => iteB (decide (x4 < (([p1.Removed, p1.Changed] : List (List (List UInt8))).length : Int))) ((ixV ([p1.Removed, p1.Changed] : List (List (List UInt8))) x4).bind fun x6 => (loop (M_delta_Apply_L1 x6) (x3, (0 : Int))).bind fun x9 => some (.inl (x9, IntKind.i64.wrap (x4 + (1 : Int))))) (some (.inr x3))
noncomputable def M_delta_Apply_L3 (x2 : List ((List UInt8) × Int)) (x14 : List (List UInt8)) (s : (List ((List UInt8) × Int)) × Int) : Option (((List ((List UInt8) × Int)) × Int) ⊕ (((List ((List UInt8) × Int))))) :=
  match s with
  | (x15, x16) => iteB (decide (x16 < (x14.length : Int))) (((ixV x14 x16).bind fun x19 => iteB ((mfind x2 x19).isSome) (some (mput x15 x19 ((mfind x2 x19).getD (0 : Int)))) (some x15) : Option (((List ((List UInt8) × Int))))).bind fun x18 => some (.inl (x18, IntKind.i64.wrap (x16 + (1 : Int))))) (some (.inr x15))
noncomputable def M_delta_Apply_L2 (p1 : S_delta_Diff) (x2 : List ((List UInt8) × Int)) (s : (List ((List UInt8) × Int)) × Int) : Option (((List ((List UInt8) × Int)) × Int) ⊕ (((List ((List UInt8) × Int))))) :=
  match s with
  | (x11, x12) => iteB (decide (x12 < (([p1.Added, p1.Changed] : List (List (List UInt8))).length : Int))) ((ixV ([p1.Added, p1.Changed] : List (List (List UInt8))) x12).bind fun x14 => (loop (M_delta_Apply_L3 x2 x14) (x11, (0 : Int))).bind fun x17 => some (.inl (x17, IntKind.i64.wrap (x12 + (1 : Int))))) (some (.inr x11))
noncomputable def M_delta_Apply (p0 : List S_api_Member) (p1 : S_delta_Diff) (p2 : List S_api_Member) : Option ((List S_api_Member)) :=
 (M_delta_places p0).bind fun x1 => (M_delta_places p2).bind fun x2 => (loop (M_delta_Apply_L0 p1) (x1, (0 : Int))).bind fun x5 => (loop (M_delta_Apply_L2 p1 x2) (([] : List ((List UInt8) × Int)), (0 : Int))).bind fun x13 => (M_delta_kept p0 x5).bind fun x20 => (M_delta_kept p2 x13).bind fun x21 => need (okN 168 (x20.length + x21.length)) <| (M_delta_byName_sO (x20 ++ x21)).bind fun x23 => some x23
theorem ok_delta_Apply {g : Gd} {h : AHeap} {F : List Ck} {p0 : List S_api_Member} {p1 : S_delta_Diff} {p2 : List S_api_Member} {q0 : List S_api_Member} {av : List AVal} (hm : M_delta_Apply p0 p1 p2 = some q0) (hc : canL (cfg.still 32) av = [vs e_S_api_Member p0, .agg [vs eS p1.Added, vs eS p1.Removed, vs eS p1.Changed], vs e_S_api_Member p2]) (A : HH g h [] F) : ∃ v h', Runs cfg g h 32 av v h' ∧ ∃ (rq0 : Option Nat), v = rowV rq0 q0.length ∧ HH g h' [.lst rq0 63 (lst e_S_api_Member q0)] F := by
  refine runsQ1 (n := 81) (rs := [.tmp 6]) (by kernel_rfl) hc (by kernel_rfl) ?_
  clear hc
  unfold M_delta_Apply at hm
  refine start (n := 81) [(0, vs e_S_api_Member p0), (1, .agg [vs eS p1.Added, vs eS p1.Removed, vs eS p1.Changed]), (2, vs e_S_api_Member p2)] (by kernel_rfl) (by kernel_rfl) ?_
  intro fr H
  refine aw_seq (by kernel_rfl) ?_
  refine aw_reg (id := 0) (n := 2) [(0, []), (1, [])] (by kernel_rfl) (by kernel_rfl) ?_
  obtain ⟨h1, e1⟩ : ∃ x, x = h.push (.cells none 2 [vs eS p1.Added, vs eS p1.Removed, vs eS p1.Changed]) := ⟨_, rfl⟩
  replace A := (A.push _).to e1
  refine at_step (v := .ptr (some (h.size, 0))) (h1 := h1) [(0, vs e_S_api_Member p0), (2, vs e_S_api_Member p2), (4, .ptr (some (h.size, 0)))] H (fun fr => by kernel_rfl) (fun fr => .of (s_n' (by kernel_rfl) (congrArg some e1.symm))) ?_
  intro fr t H
  refine at_seg [(1, [])] [(0, vs e_S_api_Member p0), (2, vs e_S_api_Member p2), (4, .ptr (some (h.size, 0)))] H (noU_all rfl) (fun fr => by kernel_rfl) ?_
  intro fr H
  refine at_nil ?_
  show AW cfg 32 g (right (bodyC cfg.P 32)) fr h1 _
  refine aw_seq (by kernel_rfl) ?_
  refine aw_reg (id := 1) (n := 6) [(0, []), (1, []), (2, []), (3, []), (4, []), (5, [])] (by kernel_rfl) (by kernel_rfl) ?_
  refine at_seg [(0, [])] [(0, vs e_S_api_Member p0), (2, vs e_S_api_Member p2), (4, .ptr (some (h.size, 0))), (20, vs e_S_api_Member p0)] H (noU_all rfl) (fun fr => by kernel_rfl) ?_
  intro fr H
  have A1 := A.cut 0
  obtain ⟨x1, hx, hm⟩ := bind_some hm
  obtain ⟨v1, h2, hr, bqw1, rfl, A1⟩ := ok_delta_places (av := [vs e_S_api_Member p0]) hx (by kernel_rfl) A1
  replace A : HH g h2 [.obj bqw1 (.map 2 (encM (fun k : List UInt8 => .str k) (fun v : Int => .int .i64 v) x1)), .obj h.size (.cells none 2 [vs eS p1.Added, vs eS p1.Removed, vs eS p1.Changed])] F := A.glue0 (n := 0) A1
  refine at_step (v := .map (some bqw1)) (h1 := h2) [(0, vs e_S_api_Member p0), (2, vs e_S_api_Member p2), (4, .ptr (some (h.size, 0))), (21, .map (some bqw1))] H (fun fr => by kernel_rfl) (fun fr => Steps.call (by kernel_rfl) hr) ?_
  intro fr t H
  refine at_seg [(2, [])] [(0, vs e_S_api_Member p0), (2, vs e_S_api_Member p2), (4, .ptr (some (h.size, 0))), (21, .map (some bqw1)), (22, vs e_S_api_Member p2)] H (noU_all rfl) (fun fr => by kernel_rfl) ?_
  intro fr H
  have A1 := A.cut 0
  obtain ⟨x2, hx, hm⟩ := bind_some hm
  obtain ⟨v1, h3, hr, bqw2, rfl, A1⟩ := ok_delta_places (av := [vs e_S_api_Member p2]) hx (by kernel_rfl) A1
  replace A : HH g h3 [.obj bqw2 (.map 2 (encM (fun k : List UInt8 => .str k) (fun v : Int => .int .i64 v) x2)), .obj bqw1 (.map 2 (encM (fun k : List UInt8 => .str k) (fun v : Int => .int .i64 v) x1)), .obj h.size (.cells none 2 [vs eS p1.Added, vs eS p1.Removed, vs eS p1.Changed])] F := A.glue0 (n := 0) A1
  refine at_step (v := .map (some bqw2)) (h1 := h3) [(0, vs e_S_api_Member p0), (2, vs e_S_api_Member p2), (4, .ptr (some (h.size, 0))), (21, .map (some bqw1)), (23, .map (some bqw2))] H (fun fr => by kernel_rfl) (fun fr => Steps.call (by kernel_rfl) hr) ?_
  intro fr t H
  refine at_seg [(4, []), (5, [])] [(0, vs e_S_api_Member p0), (2, vs e_S_api_Member p2), (4, .ptr (some (h.size, 0))), (7, .map (some bqw1)), (8, .map (some bqw2))] H (noU_all rfl) (fun fr => by kernel_rfl) ?_
  intro fr H
  refine at_nil ?_
  show AW cfg 32 g (right (right (bodyC cfg.P 32))) fr h3 _
  refine aw_seq (by kernel_rfl) ?_
  refine aw_seq (by kernel_rfl) ?_
  refine aw_reg (id := 2) (n := 7) [(0, []), (1, []), (2, []), (3, []), (4, []), (5, []), (6, [])] (by kernel_rfl) (by kernel_rfl) ?_
  refine at_seg [(0, [])] [(0, vs e_S_api_Member p0), (2, vs e_S_api_Member p2), (4, .ptr (some (h.size, 0))), (7, .map (some bqw1)), (8, .map (some bqw2)), (24, .ptr (some (h.size, 1)))] H (noU_all rfl) (fun fr => by kernel_rfl) ?_
  intro fr H
  refine at_step (v := vs eS p1.Removed) (h1 := h3) [(0, vs e_S_api_Member p0), (2, vs e_S_api_Member p2), (4, .ptr (some (h.size, 0))), (7, .map (some bqw1)), (8, .map (some bqw2)), (25, vs eS p1.Removed)] H (fun fr => by kernel_rfl) (fun fr => .of (s_ld (by kernel_rfl) (A.ld1 2 rfl (o := 1) rfl))) ?_
  intro fr t H
  refine at_seg [(2, [])] [(0, vs e_S_api_Member p0), (2, vs e_S_api_Member p2), (4, .ptr (some (h.size, 0))), (7, .map (some bqw1)), (8, .map (some bqw2)), (25, vs eS p1.Removed), (26, .ptr (some (h.size, 2)))] H (noU_all rfl) (fun fr => by kernel_rfl) ?_
  intro fr H
  refine at_step (v := vs eS p1.Changed) (h1 := h3) [(0, vs e_S_api_Member p0), (2, vs e_S_api_Member p2), (4, .ptr (some (h.size, 0))), (7, .map (some bqw1)), (8, .map (some bqw2)), (25, vs eS p1.Removed), (27, vs eS p1.Changed)] H (fun fr => by kernel_rfl) (fun fr => .of (s_ld (by kernel_rfl) (A.ld1 2 rfl (o := 2) rfl))) ?_
  intro fr t H
  obtain ⟨h4, e2⟩ : ∃ x, x = h3.push (.cells (some 27) 2 [vs eS p1.Removed, vs eS p1.Changed]) := ⟨_, rfl⟩
  replace A := (A.pushL _ _).to e2
  refine at_step (v := rowV (some h3.size) (([p1.Removed, p1.Changed] : List (List (List UInt8))).length)) (h1 := h4) [(0, vs e_S_api_Member p0), (2, vs e_S_api_Member p2), (4, .ptr (some (h.size, 0))), (7, .map (some bqw1)), (8, .map (some bqw2)), (28, rowV (some h3.size) (([p1.Removed, p1.Changed] : List (List (List UInt8))).length))] H (fun fr => by kernel_rfl) (fun fr => .of (s_n' (by kernel_rfl) (congrArg some e2.symm))) ?_
  intro fr t H
  refine at_seg [(5, []), (6, [])] [(0, vs e_S_api_Member p0), (2, vs e_S_api_Member p2), (4, .ptr (some (h.size, 0))), (7, .map (some bqw1)), (8, .map (some bqw2)), (28, rowV (some h3.size) (([p1.Removed, p1.Changed] : List (List (List UInt8))).length)), (29, .int .i64 (([p1.Removed, p1.Changed] : List (List (List UInt8))).length : Int)), (30, .int .i64 (0 : Int))] H (noU_all rfl) (fun fr => by kernel_rfl) ?_
  intro fr H
  refine at_nil ?_
  show AW cfg 32 g (right (left (right (right (bodyC cfg.P 32))))) fr h4 _
  refine aw_block (id := 0) (by kernel_rfl) ?_
  replace A : HH g h4 [.lst (some h3.size) 27 (lst (eL eS) ([p1.Removed, p1.Changed] : List (List (List UInt8)))), .obj bqw2 (.map 2 (encM (fun k : List UInt8 => .str k) (fun v : Int => .int .i64 v) x2)), .obj bqw1 (.map 2 (encM (fun k : List UInt8 => .str k) (fun v : Int => .int .i64 v) x1)), .obj h.size (.cells none 2 [vs eS p1.Added, vs eS p1.Removed, vs eS p1.Changed])] F := A
  obtain ⟨o1, ho, hm⟩ := bind_some hm
  refine aw_mono (Q' := fun e fr' h' => (∃ (x5 : List ((List UInt8) × Int)), e = .exit 0 ∧ x5 = o1 ∧ Has fr' 81 [(0, vs e_S_api_Member p0), (2, vs e_S_api_Member p2), (4, .ptr (some (h.size, 0))), (7, .map (some bqw1)), (8, .map (some bqw2))] ∧ HH g h' [.obj bqw2 (.map 2 (encM (fun k : List UInt8 => .str k) (fun v : Int => .int .i64 v) x2)), .obj bqw1 (.map 2 (encM (fun k : List UInt8 => .str k) (fun v : Int => .int .i64 v) x5)), .obj h.size (.cells none 2 [vs eS p1.Added, vs eS p1.Removed, vs eS p1.Changed])] F) ∨ False) ?_ ?_
  · refine aw_loop (by kernel_rfl) (fun (s : (List ((List UInt8) × Int)) × Int) fr' h' => ∃ (x3 : List ((List UInt8) × Int)) (x4 : Int), (x3, x4) = s ∧ Has fr' 81 [(0, vs e_S_api_Member p0), (2, vs e_S_api_Member p2), (4, .ptr (some (h.size, 0))), (7, .map (some bqw1)), (8, .map (some bqw2)), (28, rowV (some h3.size) (([p1.Removed, p1.Changed] : List (List (List UInt8))).length)), (29, .int .i64 (([p1.Removed, p1.Changed] : List (List (List UInt8))).length : Int)), (30, .int .i64 x4)] ∧ HH g h' [.lst (some h3.size) 27 (lst (eL eS) ([p1.Removed, p1.Changed] : List (List (List UInt8)))), .obj bqw2 (.map 2 (encM (fun k : List UInt8 => .str k) (fun v : Int => .int .i64 v) x2)), .obj bqw1 (.map 2 (encM (fun k : List UInt8 => .str k) (fun v : Int => .int .i64 v) x3)), .obj h.size (.cells none 2 [vs eS p1.Added, vs eS p1.Removed, vs eS p1.Changed])] F) ho ⟨x1, (0 : Int), rfl, H.less _ (fun fr => by kernel_rfl), A⟩ ?_
    clear ho hm H A
    intro s q fr h5 hI hm
    obtain ⟨x3, x4, rfl, H, A⟩ := hI
    unfold M_delta_Apply_L0 at hm
    refine aw_seq (by kernel_rfl) ?_
    refine aw_reg (id := 3) (n := 1) [(0, [])] (by kernel_rfl) (by kernel_rfl) ?_
    refine at_seg [(0, [])] [(0, vs e_S_api_Member p0), (2, vs e_S_api_Member p2), (4, .ptr (some (h.size, 0))), (7, .map (some bqw1)), (8, .map (some bqw2)), (28, rowV (some h3.size) (([p1.Removed, p1.Changed] : List (List (List UInt8))).length)), (29, .int .i64 (([p1.Removed, p1.Changed] : List (List (List UInt8))).length : Int)), (30, .int .i64 x4), (31, .bool (decide (x4 < (([p1.Removed, p1.Changed] : List (List (List UInt8))).length : Int))))] H (noU_all rfl) (fun fr => by kernel_rfl) ?_
    intro fr H
    refine at_nil ?_
    show AW cfg 32 g (right (left (left (right (left (right (right (bodyC cfg.P 32)))))))) fr h5 _
    refine aw_seq (by kernel_rfl) ?_
    rcases iteB_some hm with ⟨hb, hm⟩ | ⟨hb, hm⟩
    · replace H := H.know 31 hb (by kernel_rfl)
      refine aw_true (x := .tmp 31) (by kernel_rfl) H (fun fr => by kernel_rfl) ?_
      refine aw_skip (by kernel_rfl) ?_
      show AW cfg 32 g (right (right (left (left (right (left (right (right (bodyC cfg.P 32))))))))) fr h5 _
      refine aw_seq (by kernel_rfl) ?_
      refine aw_block (id := 1) (by kernel_rfl) ?_
      refine aw_seq (by kernel_rfl) ?_
      refine aw_reg (id := 4) (n := 3) [(0, []), (1, []), (2, [])] (by kernel_rfl) (by kernel_rfl) ?_
      obtain ⟨x6, hx, hm⟩ := bind_some hm
      obtain ⟨i1, er1, _, hx, hq1⟩ := HH.ixO (encL _) (by decide) A 0 (xs := ([p1.Removed, p1.Changed] : List (List (List UInt8)))) rfl hx
      refine at_step (v := .ptr (some (i1, x4.toNat * 1))) (h1 := h5) [(0, vs e_S_api_Member p0), (2, vs e_S_api_Member p2), (4, .ptr (some (h.size, 0))), (7, .map (some bqw1)), (8, .map (some bqw2)), (28, rowV (some h3.size) (([p1.Removed, p1.Changed] : List (List (List UInt8))).length)), (29, .int .i64 (([p1.Removed, p1.Changed] : List (List (List UInt8))).length : Int)), (30, .int .i64 x4), (32, .ptr (some (i1, x4.toNat * 1)))] H (fun fr => by kernel_rfl) (fun fr => .of (s_ixL (s := rowS (some h3.size) (([p1.Removed, p1.Changed] : List (List (List UInt8))).length)) (by kernel_rfl) hx)) ?_
      intro fr t H
      refine at_step (v := vs eS x6) (h1 := h5) [(0, vs e_S_api_Member p0), (2, vs e_S_api_Member p2), (4, .ptr (some (h.size, 0))), (7, .map (some bqw1)), (8, .map (some bqw2)), (28, rowV (some h3.size) (([p1.Removed, p1.Changed] : List (List (List UInt8))).length)), (29, .int .i64 (([p1.Removed, p1.Changed] : List (List (List UInt8))).length : Int)), (30, .int .i64 x4), (33, vs eS x6)] H (fun fr => by kernel_rfl) (fun fr => .of (s_ld (by kernel_rfl) (row_ld1 (encL _) (HH.row A 0 rfl er1) hq1 (o := 0) rfl))) ?_
      intro fr t H
      refine at_seg [(2, [])] [(0, vs e_S_api_Member p0), (2, vs e_S_api_Member p2), (4, .ptr (some (h.size, 0))), (7, .map (some bqw1)), (8, .map (some bqw2)), (10, vs eS x6), (28, rowV (some h3.size) (([p1.Removed, p1.Changed] : List (List (List UInt8))).length)), (29, .int .i64 (([p1.Removed, p1.Changed] : List (List (List UInt8))).length : Int)), (30, .int .i64 x4)] H (noU_all rfl) (fun fr => by kernel_rfl) ?_
      intro fr H
      refine at_nil ?_
      show AW cfg 32 g (right (left (left (right (right (left (left (right (left (right (right (bodyC cfg.P 32)))))))))))) fr h5 _
      refine aw_seq (by kernel_rfl) ?_
      refine aw_reg (id := 5) (n := 3) [(0, []), (1, []), (2, [])] (by kernel_rfl) (by kernel_rfl) ?_
      refine at_seg [(0, []), (1, []), (2, [])] [(0, vs e_S_api_Member p0), (2, vs e_S_api_Member p2), (4, .ptr (some (h.size, 0))), (7, .map (some bqw1)), (8, .map (some bqw2)), (28, rowV (some h3.size) (([p1.Removed, p1.Changed] : List (List (List UInt8))).length)), (29, .int .i64 (([p1.Removed, p1.Changed] : List (List (List UInt8))).length : Int)), (30, .int .i64 x4), (34, vs eS x6), (35, .int .i64 (x6.length : Int)), (36, .int .i64 (0 : Int))] H (noU_all rfl) (fun fr => by kernel_rfl) ?_
      intro fr H
      refine at_nil ?_
      show AW cfg 32 g (right (right (left (left (right (right (left (left (right (left (right (right (bodyC cfg.P 32))))))))))))) fr h5 _
      refine aw_block (id := 2) (by kernel_rfl) ?_
      obtain ⟨o2, ho, hm⟩ := bind_some hm
      refine aw_mono (Q' := fun e fr' h' => (∃ (x9 : List ((List UInt8) × Int)), e = .exit 2 ∧ x9 = o2 ∧ Has fr' 81 [(0, vs e_S_api_Member p0), (2, vs e_S_api_Member p2), (4, .ptr (some (h.size, 0))), (7, .map (some bqw1)), (8, .map (some bqw2)), (28, rowV (some h3.size) (([p1.Removed, p1.Changed] : List (List (List UInt8))).length)), (29, .int .i64 (([p1.Removed, p1.Changed] : List (List (List UInt8))).length : Int)), (30, .int .i64 x4)] ∧ HH g h' [.lst (some h3.size) 27 (lst (eL eS) ([p1.Removed, p1.Changed] : List (List (List UInt8)))), .obj bqw2 (.map 2 (encM (fun k : List UInt8 => .str k) (fun v : Int => .int .i64 v) x2)), .obj bqw1 (.map 2 (encM (fun k : List UInt8 => .str k) (fun v : Int => .int .i64 v) x9)), .obj h.size (.cells none 2 [vs eS p1.Added, vs eS p1.Removed, vs eS p1.Changed])] F) ∨ False) ?_ ?_
      · refine aw_loop (by kernel_rfl) (fun (s : (List ((List UInt8) × Int)) × Int) fr' h' => ∃ (x7 : List ((List UInt8) × Int)) (x8 : Int), (x7, x8) = s ∧ Has fr' 81 [(0, vs e_S_api_Member p0), (2, vs e_S_api_Member p2), (4, .ptr (some (h.size, 0))), (7, .map (some bqw1)), (8, .map (some bqw2)), (28, rowV (some h3.size) (([p1.Removed, p1.Changed] : List (List (List UInt8))).length)), (29, .int .i64 (([p1.Removed, p1.Changed] : List (List (List UInt8))).length : Int)), (30, .int .i64 x4), (34, vs eS x6), (35, .int .i64 (x6.length : Int)), (36, .int .i64 x8)] ∧ HH g h' [.lst (some h3.size) 27 (lst (eL eS) ([p1.Removed, p1.Changed] : List (List (List UInt8)))), .obj bqw2 (.map 2 (encM (fun k : List UInt8 => .str k) (fun v : Int => .int .i64 v) x2)), .obj bqw1 (.map 2 (encM (fun k : List UInt8 => .str k) (fun v : Int => .int .i64 v) x7)), .obj h.size (.cells none 2 [vs eS p1.Added, vs eS p1.Removed, vs eS p1.Changed])] F) ho ⟨x3, (0 : Int), rfl, H.less _ (fun fr => by kernel_rfl), A⟩ ?_
        clear ho hm H A
        intro s q fr h6 hI hm
        obtain ⟨x7, x8, rfl, H, A⟩ := hI
        unfold M_delta_Apply_L1 at hm
        refine aw_seq (by kernel_rfl) ?_
        refine aw_reg (id := 6) (n := 1) [(0, [])] (by kernel_rfl) (by kernel_rfl) ?_
        refine at_seg [(0, [])] [(0, vs e_S_api_Member p0), (2, vs e_S_api_Member p2), (4, .ptr (some (h.size, 0))), (7, .map (some bqw1)), (8, .map (some bqw2)), (28, rowV (some h3.size) (([p1.Removed, p1.Changed] : List (List (List UInt8))).length)), (29, .int .i64 (([p1.Removed, p1.Changed] : List (List (List UInt8))).length : Int)), (30, .int .i64 x4), (34, vs eS x6), (35, .int .i64 (x6.length : Int)), (36, .int .i64 x8), (37, .bool (decide (x8 < (x6.length : Int))))] H (noU_all rfl) (fun fr => by kernel_rfl) ?_
        intro fr H
        refine at_nil ?_
        show AW cfg 32 g (right (left (left (right (right (left (left (right (right (left (left (right (left (right (right (bodyC cfg.P 32)))))))))))))))) fr h6 _
        refine aw_seq (by kernel_rfl) ?_
        rcases iteB_some hm with ⟨hb, hm⟩ | ⟨hb, hm⟩
        · replace H := H.know 37 hb (by kernel_rfl)
          refine aw_true (x := .tmp 37) (by kernel_rfl) H (fun fr => by kernel_rfl) ?_
          refine aw_skip (by kernel_rfl) ?_
          show AW cfg 32 g (right (right (left (left (right (right (left (left (right (right (left (left (right (left (right (right (bodyC cfg.P 32))))))))))))))))) fr h6 _
          refine aw_seq (by kernel_rfl) ?_
          refine aw_block (id := 3) (by kernel_rfl) ?_
          refine aw_seq (by kernel_rfl) ?_
          refine aw_reg (id := 7) (n := 3) [(0, []), (1, []), (2, [])] (by kernel_rfl) (by kernel_rfl) ?_
          obtain ⟨x10, hx, hm⟩ := bind_some hm
          refine at_step (v := .vptr [.str x10]) (h1 := h6) [(0, vs e_S_api_Member p0), (2, vs e_S_api_Member p2), (4, .ptr (some (h.size, 0))), (7, .map (some bqw1)), (8, .map (some bqw2)), (28, rowV (some h3.size) (([p1.Removed, p1.Changed] : List (List (List UInt8))).length)), (29, .int .i64 (([p1.Removed, p1.Changed] : List (List (List UInt8))).length : Int)), (30, .int .i64 x4), (34, vs eS x6), (35, .int .i64 (x6.length : Int)), (36, .int .i64 x8), (38, .vptr [.str x10])] H (fun fr => by kernel_rfl) (fun fr => .of (s_ixV (e := eS) (x := x10) encS (by decide) (by kernel_rfl) hx)) ?_
          intro fr t H
          refine at_step (v := .str x10) (h1 := h6) [(0, vs e_S_api_Member p0), (2, vs e_S_api_Member p2), (4, .ptr (some (h.size, 0))), (7, .map (some bqw1)), (8, .map (some bqw2)), (28, rowV (some h3.size) (([p1.Removed, p1.Changed] : List (List (List UInt8))).length)), (29, .int .i64 (([p1.Removed, p1.Changed] : List (List (List UInt8))).length : Int)), (30, .int .i64 x4), (34, vs eS x6), (35, .int .i64 (x6.length : Int)), (36, .int .i64 x8), (39, .str x10)] H (fun fr => by kernel_rfl) (fun fr => .of (s_lv (by kernel_rfl))) ?_
          intro fr t H
          refine at_seg [(2, [])] [(0, vs e_S_api_Member p0), (2, vs e_S_api_Member p2), (4, .ptr (some (h.size, 0))), (7, .map (some bqw1)), (8, .map (some bqw2)), (12, .str x10), (28, rowV (some h3.size) (([p1.Removed, p1.Changed] : List (List (List UInt8))).length)), (29, .int .i64 (([p1.Removed, p1.Changed] : List (List (List UInt8))).length : Int)), (30, .int .i64 x4), (34, vs eS x6), (35, .int .i64 (x6.length : Int)), (36, .int .i64 x8)] H (noU_all rfl) (fun fr => by kernel_rfl) ?_
          intro fr H
          refine at_nil ?_
          show AW cfg 32 g (right (left (left (right (right (left (left (right (right (left (left (right (right (left (left (right (left (right (right (bodyC cfg.P 32)))))))))))))))))))) fr h6 _
          refine aw_reg (id := 8) (n := 3) [(0, []), (1, []), (2, [])] (by kernel_rfl) (by kernel_rfl) ?_
          refine at_seg [(0, []), (1, [])] [(0, vs e_S_api_Member p0), (2, vs e_S_api_Member p2), (4, .ptr (some (h.size, 0))), (7, .map (some bqw1)), (8, .map (some bqw2)), (28, rowV (some h3.size) (([p1.Removed, p1.Changed] : List (List (List UInt8))).length)), (29, .int .i64 (([p1.Removed, p1.Changed] : List (List (List UInt8))).length : Int)), (30, .int .i64 x4), (34, vs eS x6), (35, .int .i64 (x6.length : Int)), (36, .int .i64 x8), (40, .map (some bqw1)), (41, .str x10)] H (noU_all rfl) (fun fr => by kernel_rfl) ?_
          intro fr H
          obtain ⟨h7, hx, A1⟩ := HH.mdel' (kt := 9) (et := 3) (ek := fun k : List UInt8 => .str k) (ev := fun v : Int => .int .i64 v) (keyS (by kernel_rfl)) A 2 rfl (t := 68) (ts := #[68, 9]) rfl (by kernel_rfl) x10
          replace A : HH g h7 [.lst (some h3.size) 27 (lst (eL eS) ([p1.Removed, p1.Changed] : List (List (List UInt8)))), .obj bqw2 (.map 2 (encM (fun k : List UInt8 => .str k) (fun v : Int => .int .i64 v) x2)), .obj bqw1 (.map 2 (encM (fun k : List UInt8 => .str k) (fun v : Int => .int .i64 v) (mdel x7 x10))), .obj h.size (.cells none 2 [vs eS p1.Added, vs eS p1.Removed, vs eS p1.Changed])] F := A1
          refine at_step (v := .tuple []) (h1 := h7) [(0, vs e_S_api_Member p0), (2, vs e_S_api_Member p2), (4, .ptr (some (h.size, 0))), (7, .map (some bqw1)), (8, .map (some bqw2)), (28, rowV (some h3.size) (([p1.Removed, p1.Changed] : List (List (List UInt8))).length)), (29, .int .i64 (([p1.Removed, p1.Changed] : List (List (List UInt8))).length : Int)), (30, .int .i64 x4), (34, vs eS x6), (35, .int .i64 (x6.length : Int)), (36, .int .i64 x8)] H (fun fr => by kernel_rfl) (fun fr => .of (s_del (by kernel_rfl) hx)) ?_
          intro fr t H
          refine at_nil ?_
          show AW cfg 32 g (right (right (right (left (left (right (right (left (left (right (right (left (left (right (left (right (right (bodyC cfg.P 32)))))))))))))))))) fr h7 _
          refine aw_reg (id := 9) (n := 2) [(0, []), (1, [])] (by kernel_rfl) (by kernel_rfl) ?_
          refine at_seg [(0, []), (1, [])] [(0, vs e_S_api_Member p0), (2, vs e_S_api_Member p2), (4, .ptr (some (h.size, 0))), (7, .map (some bqw1)), (8, .map (some bqw2)), (28, rowV (some h3.size) (([p1.Removed, p1.Changed] : List (List (List UInt8))).length)), (29, .int .i64 (([p1.Removed, p1.Changed] : List (List (List UInt8))).length : Int)), (30, .int .i64 x4), (34, vs eS x6), (35, .int .i64 (x6.length : Int)), (36, .int .i64 (IntKind.i64.wrap (x8 + (1 : Int))))] H (noU_all rfl) (fun fr => by kernel_rfl) ?_
          intro fr H
          refine at_nil ?_
          exact Exists.intro ((mdel x7 x10), IntKind.i64.wrap (x8 + (1 : Int))) (And.intro (Option.some.inj hm).symm ⟨(mdel x7 x10), IntKind.i64.wrap (x8 + (1 : Int)), rfl, H.less _ (fun fr => by kernel_rfl), A⟩)
        · replace H := H.know 37 hb (by kernel_rfl)
          refine aw_false (x := .tmp 37) (by kernel_rfl) H (fun fr => by kernel_rfl) ?_
          refine aw_exit (i := 2) (by kernel_rfl) ?_
          exact Exists.intro _ (And.intro (Option.some.inj hm).symm (fun e => Or.inl ⟨x7, rfl, e, H.less _ (fun fr => by kernel_rfl), A⟩))
      · clear ho
        clear A
        intro e fr h8 hQ
        rcases hQ with ⟨x9, rfl, rfl, H, A⟩ | hF
        · skip
          show AW cfg 32 g (right (right (right (left (left (right (left (right (right (bodyC cfg.P 32)))))))))) fr h8 _
          refine aw_reg (id := 10) (n := 2) [(0, []), (1, [])] (by kernel_rfl) (by kernel_rfl) ?_
          refine at_seg [(0, []), (1, [])] [(0, vs e_S_api_Member p0), (2, vs e_S_api_Member p2), (4, .ptr (some (h.size, 0))), (7, .map (some bqw1)), (8, .map (some bqw2)), (28, rowV (some h3.size) (([p1.Removed, p1.Changed] : List (List (List UInt8))).length)), (29, .int .i64 (([p1.Removed, p1.Changed] : List (List (List UInt8))).length : Int)), (30, .int .i64 (IntKind.i64.wrap (x4 + (1 : Int))))] H (noU_all rfl) (fun fr => by kernel_rfl) ?_
          intro fr H
          refine at_nil ?_
          exact Exists.intro (x9, IntKind.i64.wrap (x4 + (1 : Int))) (And.intro (Option.some.inj hm).symm ⟨x9, IntKind.i64.wrap (x4 + (1 : Int)), rfl, H.less _ (fun fr => by kernel_rfl), A⟩)
        · exact hF.elim
    · replace H := H.know 31 hb (by kernel_rfl)
      refine aw_false (x := .tmp 31) (by kernel_rfl) H (fun fr => by kernel_rfl) ?_
      refine aw_exit (i := 0) (by kernel_rfl) ?_
      replace A : HH g h5 [.obj bqw2 (.map 2 (encM (fun k : List UInt8 => .str k) (fun v : Int => .int .i64 v) x2)), .obj bqw1 (.map 2 (encM (fun k : List UInt8 => .str k) (fun v : Int => .int .i64 v) x3)), .obj h.size (.cells none 2 [vs eS p1.Added, vs eS p1.Removed, vs eS p1.Changed])] F := (HH.dropF (((A.front 3 rfl).front 3 rfl).front 3 rfl) 3)
      exact Exists.intro _ (And.intro (Option.some.inj hm).symm (fun e => Or.inl ⟨x3, rfl, e, H.less _ (fun fr => by kernel_rfl), A⟩))
  · clear ho
    clear A
    intro e fr h9 hQ
    rcases hQ with ⟨x5, rfl, rfl, H, A⟩ | hF
    · skip
      show AW cfg 32 g (right (right (right (bodyC cfg.P 32)))) fr h9 _
      refine aw_seq (by kernel_rfl) ?_
      refine aw_reg (id := 11) (n := 2) [(0, []), (1, [])] (by kernel_rfl) (by kernel_rfl) ?_
      obtain ⟨h10, e3⟩ : ∃ x, x = h9.push (.map 2 []) := ⟨_, rfl⟩
      replace A : HH g h10 [.obj h9.size (.map 2 (encM (fun k : List UInt8 => .str k) (fun v : Int => .int .i64 v) ([] : List ((List UInt8) × Int)))), .obj bqw2 (.map 2 (encM (fun k : List UInt8 => .str k) (fun v : Int => .int .i64 v) x2)), .obj bqw1 (.map 2 (encM (fun k : List UInt8 => .str k) (fun v : Int => .int .i64 v) x5)), .obj h.size (.cells none 2 [vs eS p1.Added, vs eS p1.Removed, vs eS p1.Changed])] F := (A.push _).to e3
      refine at_step (v := .map (some h9.size)) (h1 := h10) [(0, vs e_S_api_Member p0), (2, vs e_S_api_Member p2), (4, .ptr (some (h.size, 0))), (7, .map (some bqw1)), (8, .map (some bqw2)), (44, .map (some h9.size))] H (fun fr => by kernel_rfl) (fun fr => .of (s_n' (by kernel_rfl) (congrArg some e3.symm))) ?_
      intro fr t H
      refine at_seg [(1, [])] [(0, vs e_S_api_Member p0), (2, vs e_S_api_Member p2), (4, .ptr (some (h.size, 0))), (7, .map (some bqw1)), (8, .map (some bqw2)), (13, .map (some h9.size))] H (noU_all rfl) (fun fr => by kernel_rfl) ?_
      intro fr H
      refine at_nil ?_
      show AW cfg 32 g (right (right (right (right (bodyC cfg.P 32))))) fr h10 _
      refine aw_seq (by kernel_rfl) ?_
      refine aw_seq (by kernel_rfl) ?_
      refine aw_reg (id := 12) (n := 7) [(0, []), (1, []), (2, []), (3, []), (4, []), (5, []), (6, [])] (by kernel_rfl) (by kernel_rfl) ?_
      refine at_seg [(0, [])] [(0, vs e_S_api_Member p0), (2, vs e_S_api_Member p2), (4, .ptr (some (h.size, 0))), (7, .map (some bqw1)), (8, .map (some bqw2)), (13, .map (some h9.size)), (45, .ptr (some (h.size, 0)))] H (noU_all rfl) (fun fr => by kernel_rfl) ?_
      intro fr H
      refine at_step (v := vs eS p1.Added) (h1 := h10) [(0, vs e_S_api_Member p0), (2, vs e_S_api_Member p2), (4, .ptr (some (h.size, 0))), (7, .map (some bqw1)), (8, .map (some bqw2)), (13, .map (some h9.size)), (46, vs eS p1.Added)] H (fun fr => by kernel_rfl) (fun fr => .of (s_ld (by kernel_rfl) (A.ld1 3 rfl (o := 0) rfl))) ?_
      intro fr t H
      refine at_seg [(2, [])] [(0, vs e_S_api_Member p0), (2, vs e_S_api_Member p2), (7, .map (some bqw1)), (8, .map (some bqw2)), (13, .map (some h9.size)), (46, vs eS p1.Added), (47, .ptr (some (h.size, 2)))] H (noU_all rfl) (fun fr => by kernel_rfl) ?_
      intro fr H
      refine at_step (v := vs eS p1.Changed) (h1 := h10) [(0, vs e_S_api_Member p0), (2, vs e_S_api_Member p2), (7, .map (some bqw1)), (8, .map (some bqw2)), (13, .map (some h9.size)), (46, vs eS p1.Added), (48, vs eS p1.Changed)] H (fun fr => by kernel_rfl) (fun fr => .of (s_ld (by kernel_rfl) (A.ld1 3 rfl (o := 2) rfl))) ?_
      intro fr t H
      obtain ⟨h11, e4⟩ : ∃ x, x = h10.push (.cells (some 27) 2 [vs eS p1.Added, vs eS p1.Changed]) := ⟨_, rfl⟩
      replace A := (A.pushL _ _).to e4
      refine at_step (v := rowV (some h10.size) (([p1.Added, p1.Changed] : List (List (List UInt8))).length)) (h1 := h11) [(0, vs e_S_api_Member p0), (2, vs e_S_api_Member p2), (7, .map (some bqw1)), (8, .map (some bqw2)), (13, .map (some h9.size)), (49, rowV (some h10.size) (([p1.Added, p1.Changed] : List (List (List UInt8))).length))] H (fun fr => by kernel_rfl) (fun fr => .of (s_n' (by kernel_rfl) (congrArg some e4.symm))) ?_
      intro fr t H
      refine at_seg [(5, []), (6, [])] [(0, vs e_S_api_Member p0), (2, vs e_S_api_Member p2), (7, .map (some bqw1)), (8, .map (some bqw2)), (13, .map (some h9.size)), (49, rowV (some h10.size) (([p1.Added, p1.Changed] : List (List (List UInt8))).length)), (50, .int .i64 (([p1.Added, p1.Changed] : List (List (List UInt8))).length : Int)), (51, .int .i64 (0 : Int))] H (noU_all rfl) (fun fr => by kernel_rfl) ?_
      intro fr H
      refine at_nil ?_
      show AW cfg 32 g (right (left (right (right (right (right (bodyC cfg.P 32))))))) fr h11 _
      refine aw_block (id := 4) (by kernel_rfl) ?_
      replace A : HH g h11 [.lst (some h10.size) 27 (lst (eL eS) ([p1.Added, p1.Changed] : List (List (List UInt8)))), .obj h9.size (.map 2 (encM (fun k : List UInt8 => .str k) (fun v : Int => .int .i64 v) ([] : List ((List UInt8) × Int)))), .obj bqw2 (.map 2 (encM (fun k : List UInt8 => .str k) (fun v : Int => .int .i64 v) x2)), .obj bqw1 (.map 2 (encM (fun k : List UInt8 => .str k) (fun v : Int => .int .i64 v) x5)), .obj h.size (.cells none 2 [vs eS p1.Added, vs eS p1.Removed, vs eS p1.Changed])] F := A
      obtain ⟨o3, ho, hm⟩ := bind_some hm
      refine aw_mono (Q' := fun e fr' h' => (∃ (x13 : List ((List UInt8) × Int)), e = .exit 4 ∧ x13 = o3 ∧ Has fr' 81 [(0, vs e_S_api_Member p0), (2, vs e_S_api_Member p2), (7, .map (some bqw1)), (13, .map (some h9.size))] ∧ HH g h' [.obj h9.size (.map 2 (encM (fun k : List UInt8 => .str k) (fun v : Int => .int .i64 v) x13)), .obj bqw2 (.map 2 (encM (fun k : List UInt8 => .str k) (fun v : Int => .int .i64 v) x2)), .obj bqw1 (.map 2 (encM (fun k : List UInt8 => .str k) (fun v : Int => .int .i64 v) x5)), .obj h.size (.cells none 2 [vs eS p1.Added, vs eS p1.Removed, vs eS p1.Changed])] F) ∨ False) ?_ ?_
      · refine aw_loop (by kernel_rfl) (fun (s : (List ((List UInt8) × Int)) × Int) fr' h' => ∃ (x11 : List ((List UInt8) × Int)) (x12 : Int), (x11, x12) = s ∧ Has fr' 81 [(0, vs e_S_api_Member p0), (2, vs e_S_api_Member p2), (7, .map (some bqw1)), (8, .map (some bqw2)), (13, .map (some h9.size)), (49, rowV (some h10.size) (([p1.Added, p1.Changed] : List (List (List UInt8))).length)), (50, .int .i64 (([p1.Added, p1.Changed] : List (List (List UInt8))).length : Int)), (51, .int .i64 x12)] ∧ HH g h' [.lst (some h10.size) 27 (lst (eL eS) ([p1.Added, p1.Changed] : List (List (List UInt8)))), .obj h9.size (.map 2 (encM (fun k : List UInt8 => .str k) (fun v : Int => .int .i64 v) x11)), .obj bqw2 (.map 2 (encM (fun k : List UInt8 => .str k) (fun v : Int => .int .i64 v) x2)), .obj bqw1 (.map 2 (encM (fun k : List UInt8 => .str k) (fun v : Int => .int .i64 v) x5)), .obj h.size (.cells none 2 [vs eS p1.Added, vs eS p1.Removed, vs eS p1.Changed])] F) ho ⟨([] : List ((List UInt8) × Int)), (0 : Int), rfl, H.less _ (fun fr => by kernel_rfl), A⟩ ?_
        clear ho hm H A
        intro s q fr h12 hI hm
        obtain ⟨x11, x12, rfl, H, A⟩ := hI
        unfold M_delta_Apply_L2 at hm
        refine aw_seq (by kernel_rfl) ?_
        refine aw_reg (id := 13) (n := 1) [(0, [])] (by kernel_rfl) (by kernel_rfl) ?_
        refine at_seg [(0, [])] [(0, vs e_S_api_Member p0), (2, vs e_S_api_Member p2), (7, .map (some bqw1)), (8, .map (some bqw2)), (13, .map (some h9.size)), (49, rowV (some h10.size) (([p1.Added, p1.Changed] : List (List (List UInt8))).length)), (50, .int .i64 (([p1.Added, p1.Changed] : List (List (List UInt8))).length : Int)), (51, .int .i64 x12), (52, .bool (decide (x12 < (([p1.Added, p1.Changed] : List (List (List UInt8))).length : Int))))] H (noU_all rfl) (fun fr => by kernel_rfl) ?_
        intro fr H
        refine at_nil ?_
        show AW cfg 32 g (right (left (left (right (left (right (right (right (right (bodyC cfg.P 32)))))))))) fr h12 _
        refine aw_seq (by kernel_rfl) ?_
        rcases iteB_some hm with ⟨hb, hm⟩ | ⟨hb, hm⟩
        · replace H := H.know 52 hb (by kernel_rfl)
          refine aw_true (x := .tmp 52) (by kernel_rfl) H (fun fr => by kernel_rfl) ?_
          refine aw_skip (by kernel_rfl) ?_
          show AW cfg 32 g (right (right (left (left (right (left (right (right (right (right (bodyC cfg.P 32))))))))))) fr h12 _
          refine aw_seq (by kernel_rfl) ?_
          refine aw_block (id := 5) (by kernel_rfl) ?_
          refine aw_seq (by kernel_rfl) ?_
          refine aw_reg (id := 14) (n := 3) [(0, []), (1, []), (2, [])] (by kernel_rfl) (by kernel_rfl) ?_
          obtain ⟨x14, hx, hm⟩ := bind_some hm
          obtain ⟨i2, er2, _, hx, hq2⟩ := HH.ixO (encL _) (by decide) A 0 (xs := ([p1.Added, p1.Changed] : List (List (List UInt8)))) rfl hx
          refine at_step (v := .ptr (some (i2, x12.toNat * 1))) (h1 := h12) [(0, vs e_S_api_Member p0), (2, vs e_S_api_Member p2), (7, .map (some bqw1)), (8, .map (some bqw2)), (13, .map (some h9.size)), (49, rowV (some h10.size) (([p1.Added, p1.Changed] : List (List (List UInt8))).length)), (50, .int .i64 (([p1.Added, p1.Changed] : List (List (List UInt8))).length : Int)), (51, .int .i64 x12), (53, .ptr (some (i2, x12.toNat * 1)))] H (fun fr => by kernel_rfl) (fun fr => .of (s_ixL (s := rowS (some h10.size) (([p1.Added, p1.Changed] : List (List (List UInt8))).length)) (by kernel_rfl) hx)) ?_
          intro fr t H
          refine at_step (v := vs eS x14) (h1 := h12) [(0, vs e_S_api_Member p0), (2, vs e_S_api_Member p2), (7, .map (some bqw1)), (8, .map (some bqw2)), (13, .map (some h9.size)), (49, rowV (some h10.size) (([p1.Added, p1.Changed] : List (List (List UInt8))).length)), (50, .int .i64 (([p1.Added, p1.Changed] : List (List (List UInt8))).length : Int)), (51, .int .i64 x12), (54, vs eS x14)] H (fun fr => by kernel_rfl) (fun fr => .of (s_ld (by kernel_rfl) (row_ld1 (encL _) (HH.row A 0 rfl er2) hq2 (o := 0) rfl))) ?_
          intro fr t H
          refine at_seg [(2, [])] [(0, vs e_S_api_Member p0), (2, vs e_S_api_Member p2), (7, .map (some bqw1)), (8, .map (some bqw2)), (13, .map (some h9.size)), (15, vs eS x14), (49, rowV (some h10.size) (([p1.Added, p1.Changed] : List (List (List UInt8))).length)), (50, .int .i64 (([p1.Added, p1.Changed] : List (List (List UInt8))).length : Int)), (51, .int .i64 x12)] H (noU_all rfl) (fun fr => by kernel_rfl) ?_
          intro fr H
          refine at_nil ?_
          show AW cfg 32 g (right (left (left (right (right (left (left (right (left (right (right (right (right (bodyC cfg.P 32)))))))))))))) fr h12 _
          refine aw_seq (by kernel_rfl) ?_
          refine aw_reg (id := 15) (n := 3) [(0, []), (1, []), (2, [])] (by kernel_rfl) (by kernel_rfl) ?_
          refine at_seg [(0, []), (1, []), (2, [])] [(0, vs e_S_api_Member p0), (2, vs e_S_api_Member p2), (7, .map (some bqw1)), (8, .map (some bqw2)), (13, .map (some h9.size)), (49, rowV (some h10.size) (([p1.Added, p1.Changed] : List (List (List UInt8))).length)), (50, .int .i64 (([p1.Added, p1.Changed] : List (List (List UInt8))).length : Int)), (51, .int .i64 x12), (55, vs eS x14), (56, .int .i64 (x14.length : Int)), (57, .int .i64 (0 : Int))] H (noU_all rfl) (fun fr => by kernel_rfl) ?_
          intro fr H
          refine at_nil ?_
          show AW cfg 32 g (right (right (left (left (right (right (left (left (right (left (right (right (right (right (bodyC cfg.P 32))))))))))))))) fr h12 _
          refine aw_block (id := 6) (by kernel_rfl) ?_
          obtain ⟨o4, ho, hm⟩ := bind_some hm
          refine aw_mono (Q' := fun e fr' h' => (∃ (x17 : List ((List UInt8) × Int)), e = .exit 6 ∧ x17 = o4 ∧ Has fr' 81 [(0, vs e_S_api_Member p0), (2, vs e_S_api_Member p2), (7, .map (some bqw1)), (8, .map (some bqw2)), (13, .map (some h9.size)), (49, rowV (some h10.size) (([p1.Added, p1.Changed] : List (List (List UInt8))).length)), (50, .int .i64 (([p1.Added, p1.Changed] : List (List (List UInt8))).length : Int)), (51, .int .i64 x12)] ∧ HH g h' [.lst (some h10.size) 27 (lst (eL eS) ([p1.Added, p1.Changed] : List (List (List UInt8)))), .obj h9.size (.map 2 (encM (fun k : List UInt8 => .str k) (fun v : Int => .int .i64 v) x17)), .obj bqw2 (.map 2 (encM (fun k : List UInt8 => .str k) (fun v : Int => .int .i64 v) x2)), .obj bqw1 (.map 2 (encM (fun k : List UInt8 => .str k) (fun v : Int => .int .i64 v) x5)), .obj h.size (.cells none 2 [vs eS p1.Added, vs eS p1.Removed, vs eS p1.Changed])] F) ∨ False) ?_ ?_
          · refine aw_loop (by kernel_rfl) (fun (s : (List ((List UInt8) × Int)) × Int) fr' h' => ∃ (x15 : List ((List UInt8) × Int)) (x16 : Int), (x15, x16) = s ∧ Has fr' 81 [(0, vs e_S_api_Member p0), (2, vs e_S_api_Member p2), (7, .map (some bqw1)), (8, .map (some bqw2)), (13, .map (some h9.size)), (49, rowV (some h10.size) (([p1.Added, p1.Changed] : List (List (List UInt8))).length)), (50, .int .i64 (([p1.Added, p1.Changed] : List (List (List UInt8))).length : Int)), (51, .int .i64 x12), (55, vs eS x14), (56, .int .i64 (x14.length : Int)), (57, .int .i64 x16)] ∧ HH g h' [.lst (some h10.size) 27 (lst (eL eS) ([p1.Added, p1.Changed] : List (List (List UInt8)))), .obj h9.size (.map 2 (encM (fun k : List UInt8 => .str k) (fun v : Int => .int .i64 v) x15)), .obj bqw2 (.map 2 (encM (fun k : List UInt8 => .str k) (fun v : Int => .int .i64 v) x2)), .obj bqw1 (.map 2 (encM (fun k : List UInt8 => .str k) (fun v : Int => .int .i64 v) x5)), .obj h.size (.cells none 2 [vs eS p1.Added, vs eS p1.Removed, vs eS p1.Changed])] F) ho ⟨x11, (0 : Int), rfl, H.less _ (fun fr => by kernel_rfl), A⟩ ?_
            clear ho hm H A
            intro s q fr h13 hI hm
            obtain ⟨x15, x16, rfl, H, A⟩ := hI
            unfold M_delta_Apply_L3 at hm
            refine aw_seq (by kernel_rfl) ?_
            refine aw_reg (id := 16) (n := 1) [(0, [])] (by kernel_rfl) (by kernel_rfl) ?_
            refine at_seg [(0, [])] [(0, vs e_S_api_Member p0), (2, vs e_S_api_Member p2), (7, .map (some bqw1)), (8, .map (some bqw2)), (13, .map (some h9.size)), (49, rowV (some h10.size) (([p1.Added, p1.Changed] : List (List (List UInt8))).length)), (50, .int .i64 (([p1.Added, p1.Changed] : List (List (List UInt8))).length : Int)), (51, .int .i64 x12), (55, vs eS x14), (56, .int .i64 (x14.length : Int)), (57, .int .i64 x16), (58, .bool (decide (x16 < (x14.length : Int))))] H (noU_all rfl) (fun fr => by kernel_rfl) ?_
            intro fr H
            refine at_nil ?_
            show AW cfg 32 g (right (left (left (right (right (left (left (right (right (left (left (right (left (right (right (right (right (bodyC cfg.P 32)))))))))))))))))) fr h13 _
            refine aw_seq (by kernel_rfl) ?_
            rcases iteB_some hm with ⟨hb, hm⟩ | ⟨hb, hm⟩
            · replace H := H.know 58 hb (by kernel_rfl)
              refine aw_true (x := .tmp 58) (by kernel_rfl) H (fun fr => by kernel_rfl) ?_
              refine aw_skip (by kernel_rfl) ?_
              show AW cfg 32 g (right (right (left (left (right (right (left (left (right (right (left (left (right (left (right (right (right (right (bodyC cfg.P 32))))))))))))))))))) fr h13 _
              refine aw_seq (by kernel_rfl) ?_
              obtain ⟨o5, ho, hm⟩ := bind_some hm
              refine aw_mono (Q' := fun e fr' h' => (∃ (x18 : List ((List UInt8) × Int)), e = .normal ∧ x18 = o5 ∧ Has fr' 81 [(0, vs e_S_api_Member p0), (2, vs e_S_api_Member p2), (7, .map (some bqw1)), (8, .map (some bqw2)), (13, .map (some h9.size)), (49, rowV (some h10.size) (([p1.Added, p1.Changed] : List (List (List UInt8))).length)), (50, .int .i64 (([p1.Added, p1.Changed] : List (List (List UInt8))).length : Int)), (51, .int .i64 x12), (55, vs eS x14), (56, .int .i64 (x14.length : Int)), (57, .int .i64 x16)] ∧ HH g h' [.lst (some h10.size) 27 (lst (eL eS) ([p1.Added, p1.Changed] : List (List (List UInt8)))), .obj h9.size (.map 2 (encM (fun k : List UInt8 => .str k) (fun v : Int => .int .i64 v) x18)), .obj bqw2 (.map 2 (encM (fun k : List UInt8 => .str k) (fun v : Int => .int .i64 v) x2)), .obj bqw1 (.map 2 (encM (fun k : List UInt8 => .str k) (fun v : Int => .int .i64 v) x5)), .obj h.size (.cells none 2 [vs eS p1.Added, vs eS p1.Removed, vs eS p1.Changed])] F) ∨ False) ?_ ?_
              · replace hm := ho
                clear ho
                refine aw_block (id := 7) (by kernel_rfl) ?_
                refine aw_seq (by kernel_rfl) ?_
                refine aw_reg (id := 17) (n := 3) [(0, []), (1, []), (2, [])] (by kernel_rfl) (by kernel_rfl) ?_
                obtain ⟨x19, hx, hm⟩ := bind_some hm
                refine at_step (v := .vptr [.str x19]) (h1 := h13) [(0, vs e_S_api_Member p0), (2, vs e_S_api_Member p2), (7, .map (some bqw1)), (8, .map (some bqw2)), (13, .map (some h9.size)), (49, rowV (some h10.size) (([p1.Added, p1.Changed] : List (List (List UInt8))).length)), (50, .int .i64 (([p1.Added, p1.Changed] : List (List (List UInt8))).length : Int)), (51, .int .i64 x12), (55, vs eS x14), (56, .int .i64 (x14.length : Int)), (57, .int .i64 x16), (59, .vptr [.str x19])] H (fun fr => by kernel_rfl) (fun fr => .of (s_ixV (e := eS) (x := x19) encS (by decide) (by kernel_rfl) hx)) ?_
                intro fr t H
                refine at_step (v := .str x19) (h1 := h13) [(0, vs e_S_api_Member p0), (2, vs e_S_api_Member p2), (7, .map (some bqw1)), (8, .map (some bqw2)), (13, .map (some h9.size)), (49, rowV (some h10.size) (([p1.Added, p1.Changed] : List (List (List UInt8))).length)), (50, .int .i64 (([p1.Added, p1.Changed] : List (List (List UInt8))).length : Int)), (51, .int .i64 x12), (55, vs eS x14), (56, .int .i64 (x14.length : Int)), (57, .int .i64 x16), (60, .str x19)] H (fun fr => by kernel_rfl) (fun fr => .of (s_lv (by kernel_rfl))) ?_
                intro fr t H
                refine at_seg [(2, [])] [(0, vs e_S_api_Member p0), (2, vs e_S_api_Member p2), (7, .map (some bqw1)), (8, .map (some bqw2)), (13, .map (some h9.size)), (17, .str x19), (49, rowV (some h10.size) (([p1.Added, p1.Changed] : List (List (List UInt8))).length)), (50, .int .i64 (([p1.Added, p1.Changed] : List (List (List UInt8))).length : Int)), (51, .int .i64 x12), (55, vs eS x14), (56, .int .i64 (x14.length : Int)), (57, .int .i64 x16)] H (noU_all rfl) (fun fr => by kernel_rfl) ?_
                intro fr H
                refine at_nil ?_
                show AW cfg 32 g (right (left (left (right (right (left (left (right (right (left (left (right (right (left (left (right (left (right (right (right (right (bodyC cfg.P 32)))))))))))))))))))))) fr h13 _
                refine aw_seq (by kernel_rfl) ?_
                refine aw_reg (id := 18) (n := 8) [(0, []), (1, []), (2, []), (3, []), (4, []), (5, []), (6, []), (7, [])] (by kernel_rfl) (by kernel_rfl) ?_
                refine at_seg [(0, []), (1, [])] [(0, vs e_S_api_Member p0), (2, vs e_S_api_Member p2), (7, .map (some bqw1)), (8, .map (some bqw2)), (13, .map (some h9.size)), (17, .str x19), (49, rowV (some h10.size) (([p1.Added, p1.Changed] : List (List (List UInt8))).length)), (50, .int .i64 (([p1.Added, p1.Changed] : List (List (List UInt8))).length : Int)), (51, .int .i64 x12), (55, vs eS x14), (56, .int .i64 (x14.length : Int)), (57, .int .i64 x16), (62, .map (some bqw2)), (63, .str x19)] H (noU_all rfl) (fun fr => by kernel_rfl) ?_
                intro fr H
                refine at_step (v := .tuple [.int .i64 ((mfind x2 x19).getD (0 : Int)), .bool ((mfind x2 x19).isSome)]) (h1 := h13) [(0, vs e_S_api_Member p0), (2, vs e_S_api_Member p2), (7, .map (some bqw1)), (8, .map (some bqw2)), (13, .map (some h9.size)), (17, .str x19), (49, rowV (some h10.size) (([p1.Added, p1.Changed] : List (List (List UInt8))).length)), (50, .int .i64 (([p1.Added, p1.Changed] : List (List (List UInt8))).length : Int)), (51, .int .i64 x12), (55, vs eS x14), (56, .int .i64 (x14.length : Int)), (57, .int .i64 x16), (64, .tuple [.int .i64 ((mfind x2 x19).getD (0 : Int)), .bool ((mfind x2 x19).isSome)])] H (fun fr => by kernel_rfl) (fun fr => .of (s_lkT (by kernel_rfl) (HH.mlook (kt := 9) (et := 3) (ek := fun k : List UInt8 => .str k) (ev := fun v : Int => .int .i64 v) (keyS (by kernel_rfl)) A 2 rfl (t := 68) (by kernel_rfl) (z := (0 : Int)) (by kernel_rfl) x19))) ?_
                intro fr t H
                refine at_seg [(3, []), (4, []), (5, []), (6, []), (7, [])] [(0, vs e_S_api_Member p0), (2, vs e_S_api_Member p2), (7, .map (some bqw1)), (8, .map (some bqw2)), (13, .map (some h9.size)), (17, .str x19), (18, .int .i64 ((mfind x2 x19).getD (0 : Int))), (19, .bool ((mfind x2 x19).isSome)), (49, rowV (some h10.size) (([p1.Added, p1.Changed] : List (List (List UInt8))).length)), (50, .int .i64 (([p1.Added, p1.Changed] : List (List (List UInt8))).length : Int)), (51, .int .i64 x12), (55, vs eS x14), (56, .int .i64 (x14.length : Int)), (57, .int .i64 x16)] H (noU_all rfl) (fun fr => by kernel_rfl) ?_
                intro fr H
                refine at_nil ?_
                show AW cfg 32 g (right (right (left (left (right (right (left (left (right (right (left (left (right (right (left (left (right (left (right (right (right (right (bodyC cfg.P 32))))))))))))))))))))))) fr h13 _
                refine aw_seq (by kernel_rfl) ?_
                refine aw_reg (id := 19) (n := 1) [(0, [])] (by kernel_rfl) (by kernel_rfl) ?_
                refine at_seg [(0, [])] [(0, vs e_S_api_Member p0), (2, vs e_S_api_Member p2), (7, .map (some bqw1)), (8, .map (some bqw2)), (13, .map (some h9.size)), (17, .str x19), (18, .int .i64 ((mfind x2 x19).getD (0 : Int))), (49, rowV (some h10.size) (([p1.Added, p1.Changed] : List (List (List UInt8))).length)), (50, .int .i64 (([p1.Added, p1.Changed] : List (List (List UInt8))).length : Int)), (51, .int .i64 x12), (55, vs eS x14), (56, .int .i64 (x14.length : Int)), (57, .int .i64 x16), (67, .bool ((mfind x2 x19).isSome))] H (noU_all rfl) (fun fr => by kernel_rfl) ?_
                intro fr H
                refine at_nil ?_
                show AW cfg 32 g (right (right (right (left (left (right (right (left (left (right (right (left (left (right (right (left (left (right (left (right (right (right (right (bodyC cfg.P 32)))))))))))))))))))))))) fr h13 _
                rcases iteB_some hm with ⟨hb, hm⟩ | ⟨hb, hm⟩
                · replace H := H.know 67 hb (by kernel_rfl)
                  refine aw_true (x := .tmp 67) (by kernel_rfl) H (fun fr => by kernel_rfl) ?_
                  refine aw_reg (id := 20) (n := 4) [(0, []), (1, []), (2, []), (3, [])] (by kernel_rfl) (by kernel_rfl) ?_
                  refine at_seg [(0, []), (1, []), (2, [])] [(0, vs e_S_api_Member p0), (2, vs e_S_api_Member p2), (7, .map (some bqw1)), (8, .map (some bqw2)), (13, .map (some h9.size)), (49, rowV (some h10.size) (([p1.Added, p1.Changed] : List (List (List UInt8))).length)), (50, .int .i64 (([p1.Added, p1.Changed] : List (List (List UInt8))).length : Int)), (51, .int .i64 x12), (55, vs eS x14), (56, .int .i64 (x14.length : Int)), (57, .int .i64 x16), (68, .map (some h9.size)), (69, .str x19), (70, .int .i64 ((mfind x2 x19).getD (0 : Int)))] H (noU_all rfl) (fun fr => by kernel_rfl) ?_
                  intro fr H
                  obtain ⟨h14, hx, A1⟩ := HH.mset (kt := 9) (et := 3) (ek := fun k : List UInt8 => .str k) (ev := fun v : Int => .int .i64 v) (keyS (by kernel_rfl)) A 1 rfl (t := 68) (by kernel_rfl) x19 ((mfind x2 x19).getD (0 : Int))
                  replace A : HH g h14 [.lst (some h10.size) 27 (lst (eL eS) ([p1.Added, p1.Changed] : List (List (List UInt8)))), .obj h9.size (.map 2 (encM (fun k : List UInt8 => .str k) (fun v : Int => .int .i64 v) (mput x15 x19 ((mfind x2 x19).getD (0 : Int))))), .obj bqw2 (.map 2 (encM (fun k : List UInt8 => .str k) (fun v : Int => .int .i64 v) x2)), .obj bqw1 (.map 2 (encM (fun k : List UInt8 => .str k) (fun v : Int => .int .i64 v) x5)), .obj h.size (.cells none 2 [vs eS p1.Added, vs eS p1.Removed, vs eS p1.Changed])] F := A1
                  refine at_step (v := .tuple []) (h1 := h14) [(0, vs e_S_api_Member p0), (2, vs e_S_api_Member p2), (7, .map (some bqw1)), (8, .map (some bqw2)), (13, .map (some h9.size)), (49, rowV (some h10.size) (([p1.Added, p1.Changed] : List (List (List UInt8))).length)), (50, .int .i64 (([p1.Added, p1.Changed] : List (List (List UInt8))).length : Int)), (51, .int .i64 x12), (55, vs eS x14), (56, .int .i64 (x14.length : Int)), (57, .int .i64 x16)] H (fun fr => by kernel_rfl) (fun fr => .of (s_ms (by kernel_rfl) hx)) ?_
                  intro fr t H
                  refine at_nil ?_
                  exact Or.inl ⟨(mput x15 x19 ((mfind x2 x19).getD (0 : Int))), rfl, Option.some.inj hm, H.less _ (fun fr => by kernel_rfl), A⟩
                · replace H := H.know 67 hb (by kernel_rfl)
                  refine aw_false (x := .tmp 67) (by kernel_rfl) H (fun fr => by kernel_rfl) ?_
                  refine aw_skip (by kernel_rfl) ?_
                  exact Or.inl ⟨x15, rfl, Option.some.inj hm, H.less _ (fun fr => by kernel_rfl), A⟩
              · clear ho
                clear A
                intro e fr h15 hQ
                rcases hQ with ⟨x18, rfl, rfl, H, A⟩ | hF
                · skip
                  show AW cfg 32 g (right (right (right (left (left (right (right (left (left (right (right (left (left (right (left (right (right (right (right (bodyC cfg.P 32)))))))))))))))))))) fr h15 _
                  refine aw_reg (id := 21) (n := 2) [(0, []), (1, [])] (by kernel_rfl) (by kernel_rfl) ?_
                  refine at_seg [(0, []), (1, [])] [(0, vs e_S_api_Member p0), (2, vs e_S_api_Member p2), (7, .map (some bqw1)), (8, .map (some bqw2)), (13, .map (some h9.size)), (49, rowV (some h10.size) (([p1.Added, p1.Changed] : List (List (List UInt8))).length)), (50, .int .i64 (([p1.Added, p1.Changed] : List (List (List UInt8))).length : Int)), (51, .int .i64 x12), (55, vs eS x14), (56, .int .i64 (x14.length : Int)), (57, .int .i64 (IntKind.i64.wrap (x16 + (1 : Int))))] H (noU_all rfl) (fun fr => by kernel_rfl) ?_
                  intro fr H
                  refine at_nil ?_
                  exact Exists.intro (x18, IntKind.i64.wrap (x16 + (1 : Int))) (And.intro (Option.some.inj hm).symm ⟨x18, IntKind.i64.wrap (x16 + (1 : Int)), rfl, H.less _ (fun fr => by kernel_rfl), A⟩)
                · exact hF.elim
            · replace H := H.know 58 hb (by kernel_rfl)
              refine aw_false (x := .tmp 58) (by kernel_rfl) H (fun fr => by kernel_rfl) ?_
              refine aw_exit (i := 6) (by kernel_rfl) ?_
              exact Exists.intro _ (And.intro (Option.some.inj hm).symm (fun e => Or.inl ⟨x15, rfl, e, H.less _ (fun fr => by kernel_rfl), A⟩))
          · clear ho
            clear A
            intro e fr h16 hQ
            rcases hQ with ⟨x17, rfl, rfl, H, A⟩ | hF
            · skip
              show AW cfg 32 g (right (right (right (left (left (right (left (right (right (right (right (bodyC cfg.P 32)))))))))))) fr h16 _
              refine aw_reg (id := 22) (n := 2) [(0, []), (1, [])] (by kernel_rfl) (by kernel_rfl) ?_
              refine at_seg [(0, []), (1, [])] [(0, vs e_S_api_Member p0), (2, vs e_S_api_Member p2), (7, .map (some bqw1)), (8, .map (some bqw2)), (13, .map (some h9.size)), (49, rowV (some h10.size) (([p1.Added, p1.Changed] : List (List (List UInt8))).length)), (50, .int .i64 (([p1.Added, p1.Changed] : List (List (List UInt8))).length : Int)), (51, .int .i64 (IntKind.i64.wrap (x12 + (1 : Int))))] H (noU_all rfl) (fun fr => by kernel_rfl) ?_
              intro fr H
              refine at_nil ?_
              exact Exists.intro (x17, IntKind.i64.wrap (x12 + (1 : Int))) (And.intro (Option.some.inj hm).symm ⟨x17, IntKind.i64.wrap (x12 + (1 : Int)), rfl, H.less _ (fun fr => by kernel_rfl), A⟩)
            · exact hF.elim
        · replace H := H.know 52 hb (by kernel_rfl)
          refine aw_false (x := .tmp 52) (by kernel_rfl) H (fun fr => by kernel_rfl) ?_
          refine aw_exit (i := 4) (by kernel_rfl) ?_
          replace A : HH g h12 [.obj h9.size (.map 2 (encM (fun k : List UInt8 => .str k) (fun v : Int => .int .i64 v) x11)), .obj bqw2 (.map 2 (encM (fun k : List UInt8 => .str k) (fun v : Int => .int .i64 v) x2)), .obj bqw1 (.map 2 (encM (fun k : List UInt8 => .str k) (fun v : Int => .int .i64 v) x5)), .obj h.size (.cells none 2 [vs eS p1.Added, vs eS p1.Removed, vs eS p1.Changed])] F := (HH.dropF ((((A.front 4 rfl).front 4 rfl).front 4 rfl).front 4 rfl) 4)
          exact Exists.intro _ (And.intro (Option.some.inj hm).symm (fun e => Or.inl ⟨x11, rfl, e, H.less _ (fun fr => by kernel_rfl), A⟩))
      · clear ho
        clear A
        intro e fr h17 hQ
        rcases hQ with ⟨x13, rfl, rfl, H, A⟩ | hF
        · skip
          show AW cfg 32 g (right (right (right (right (right (bodyC cfg.P 32)))))) fr h17 _
          refine aw_seq (by kernel_rfl) ?_
          refine aw_reg (id := 23) (n := 9) [(0, []), (1, []), (2, []), (3, []), (4, []), (5, []), (6, []), (7, []), (8, [])] (by kernel_rfl) (by kernel_rfl) ?_
          refine at_seg [(0, []), (1, [])] [(2, vs e_S_api_Member p2), (13, .map (some h9.size)), (73, vs e_S_api_Member p0), (74, .map (some bqw1))] H (noU_all rfl) (fun fr => by kernel_rfl) ?_
          intro fr H
          replace A : HH g h17 [.obj bqw1 (.map 2 (encM (fun k : List UInt8 => .str k) (fun v : Int => .int .i64 v) x5)), .obj h9.size (.map 2 (encM (fun k : List UInt8 => .str k) (fun v : Int => .int .i64 v) x13)), .obj bqw2 (.map 2 (encM (fun k : List UInt8 => .str k) (fun v : Int => .int .i64 v) x2)), .obj h.size (.cells none 2 [vs eS p1.Added, vs eS p1.Removed, vs eS p1.Changed])] F := (A.front 2 rfl)
          have A1 := A.cut 1
          obtain ⟨x20, hx, hm⟩ := bind_some hm
          obtain ⟨v1, h18, hr, rqw3, rfl, A1⟩ := ok_delta_kept (av := [vs e_S_api_Member p0, .map (some bqw1)]) hx (by kernel_rfl) A1
          replace A : HH g h18 [.lst rqw3 63 (lst e_S_api_Member x20), .obj bqw1 (.map 2 (encM (fun k : List UInt8 => .str k) (fun v : Int => .int .i64 v) x5)), .obj h9.size (.map 2 (encM (fun k : List UInt8 => .str k) (fun v : Int => .int .i64 v) x13)), .obj bqw2 (.map 2 (encM (fun k : List UInt8 => .str k) (fun v : Int => .int .i64 v) x2)), .obj h.size (.cells none 2 [vs eS p1.Added, vs eS p1.Removed, vs eS p1.Changed])] F := A.glue0 (n := 1) A1
          refine at_step (v := rowV rqw3 x20.length) (h1 := h18) [(2, vs e_S_api_Member p2), (13, .map (some h9.size)), (75, rowV rqw3 x20.length)] H (fun fr => by kernel_rfl) (fun fr => Steps.call (by kernel_rfl) hr) ?_
          intro fr t H
          refine at_seg [(3, []), (4, [])] [(75, rowV rqw3 x20.length), (76, vs e_S_api_Member p2), (77, .map (some h9.size))] H (noU_all rfl) (fun fr => by kernel_rfl) ?_
          intro fr H
          replace A : HH g h18 [.obj h9.size (.map 2 (encM (fun k : List UInt8 => .str k) (fun v : Int => .int .i64 v) x13)), .lst rqw3 63 (lst e_S_api_Member x20), .obj bqw1 (.map 2 (encM (fun k : List UInt8 => .str k) (fun v : Int => .int .i64 v) x5)), .obj bqw2 (.map 2 (encM (fun k : List UInt8 => .str k) (fun v : Int => .int .i64 v) x2)), .obj h.size (.cells none 2 [vs eS p1.Added, vs eS p1.Removed, vs eS p1.Changed])] F := (A.front 2 rfl)
          have A1 := A.cut 1
          obtain ⟨x21, hx, hm⟩ := bind_some hm
          obtain ⟨v1, h19, hr, rqw4, rfl, A1⟩ := ok_delta_kept (av := [vs e_S_api_Member p2, .map (some h9.size)]) hx (by kernel_rfl) A1
          replace A : HH g h19 [.lst rqw4 63 (lst e_S_api_Member x21), .obj h9.size (.map 2 (encM (fun k : List UInt8 => .str k) (fun v : Int => .int .i64 v) x13)), .lst rqw3 63 (lst e_S_api_Member x20), .obj bqw1 (.map 2 (encM (fun k : List UInt8 => .str k) (fun v : Int => .int .i64 v) x5)), .obj bqw2 (.map 2 (encM (fun k : List UInt8 => .str k) (fun v : Int => .int .i64 v) x2)), .obj h.size (.cells none 2 [vs eS p1.Added, vs eS p1.Removed, vs eS p1.Changed])] F := A.glue0 (n := 1) A1
          refine at_step (v := rowV rqw4 x21.length) (h1 := h19) [(75, rowV rqw3 x20.length), (78, rowV rqw4 x21.length)] H (fun fr => by kernel_rfl) (fun fr => Steps.call (by kernel_rfl) hr) ?_
          intro fr t H
          obtain ⟨hb, hm⟩ := need_some hm
          obtain ⟨r1, h20, hx, A1⟩ := HH.appO enc_S_api_Member (by decide) A 2 (xs := x20) (ys := x21) rfl (HH.firstO enc_S_api_Member (by decide) A 0 (xs := x21) rfl) (enc_S_api_Member.canL _) rfl hb
          replace A : HH g h20 [.lst rqw4 63 (lst e_S_api_Member x21), .obj h9.size (.map 2 (encM (fun k : List UInt8 => .str k) (fun v : Int => .int .i64 v) x13)), .lst r1 63 (lst e_S_api_Member (x20 ++ x21)), .obj bqw1 (.map 2 (encM (fun k : List UInt8 => .str k) (fun v : Int => .int .i64 v) x5)), .obj bqw2 (.map 2 (encM (fun k : List UInt8 => .str k) (fun v : Int => .int .i64 v) x2)), .obj h.size (.cells none 2 [vs eS p1.Added, vs eS p1.Removed, vs eS p1.Changed])] F := A1
          refine at_step (v := rowV r1 ((x20 ++ x21).length)) (h1 := h20) [(79, rowV r1 ((x20 ++ x21).length))] H (fun fr => by kernel_rfl) (fun fr => .of (s_app (s := rowS rqw3 x20.length) (by kernel_rfl) hx)) ?_
          intro fr t H
          replace A : HH g h20 [.lst r1 63 (lst e_S_api_Member (x20 ++ x21)), .lst rqw4 63 (lst e_S_api_Member x21), .obj h9.size (.map 2 (encM (fun k : List UInt8 => .str k) (fun v : Int => .int .i64 v) x13)), .obj bqw1 (.map 2 (encM (fun k : List UInt8 => .str k) (fun v : Int => .int .i64 v) x5)), .obj bqw2 (.map 2 (encM (fun k : List UInt8 => .str k) (fun v : Int => .int .i64 v) x2)), .obj h.size (.cells none 2 [vs eS p1.Added, vs eS p1.Removed, vs eS p1.Changed])] F := (A.front 2 rfl)
          have A1 := A.cut 1
          obtain ⟨x23, hx, hm⟩ := bind_some hm
          obtain ⟨v1, h21, hr, hl1, rfl, A1⟩ := ok_delta_byName_sO (av := [rowV r1 ((x20 ++ x21).length)]) hx (by kernel_rfl) A1
          have hl2 : x23.length = (x20 ++ x21).length := hl1
          have el : rowV r1 (x20 ++ x21).length = rowV r1 x23.length := congrArg _ hl1.symm
          try rw [el] at H
          try rw [el] at hr
          try rw [el] at A1
          replace A : HH g h21 [.lst r1 63 (lst e_S_api_Member x23), .lst rqw4 63 (lst e_S_api_Member x21), .obj h9.size (.map 2 (encM (fun k : List UInt8 => .str k) (fun v : Int => .int .i64 v) x13)), .obj bqw1 (.map 2 (encM (fun k : List UInt8 => .str k) (fun v : Int => .int .i64 v) x5)), .obj bqw2 (.map 2 (encM (fun k : List UInt8 => .str k) (fun v : Int => .int .i64 v) x2)), .obj h.size (.cells none 2 [vs eS p1.Added, vs eS p1.Removed, vs eS p1.Changed])] F := A.glue0 (n := 1) A1
          refine at_step (v := rowV r1 x23.length) (h1 := h21) [(80, rowV r1 x23.length)] H (fun fr => by kernel_rfl) (fun fr => Steps.call (by kernel_rfl) hr) ?_
          intro fr t H
          refine at_seg [(8, [])] [(6, rowV r1 x23.length)] H (noU_all rfl) (fun fr => by kernel_rfl) ?_
          intro fr H
          refine at_nil ?_
          show AW cfg 32 g (right (right (right (right (right (right (bodyC cfg.P 32))))))) fr h21 _
          refine aw_ret (by kernel_rfl) ?_
          have e1 := Option.some.inj hm
          subst e1
          refine ⟨.inl rfl, rowV r1 x23.length, resH H (fun fr => by kernel_rfl), ?_⟩
          replace A : HH g h21 [.lst r1 63 (lst e_S_api_Member x23)] F := (HH.dropF (A.front 0 rfl) 1)
          exact ⟨r1, rfl, A⟩
        · exact hF.elim
    · exact hF.elim
/-! ### boulter/archive.bare -/
noncomputable def M_archive_bare (p0 : S_api_Member) : Option (S_api_Member × (List S_api_Pair)) :=
 some ((⟨p0.Name, p0.Link, p0.Kind, p0.Mode, p0.Uid, p0.Gid, p0.Uname, p0.Gname, p0.Major, p0.Minor, p0.Time, ([] : List S_api_Pair), p0.Data⟩ : S_api_Member), p0.Extra)
theorem ok_archive_bare {g : Gd} {h : AHeap} {F : List Ck} {p0 : S_api_Member} {q0 : S_api_Member} {q1 : List S_api_Pair} {av : List AVal} (hm : M_archive_bare p0 = some (q0, q1)) (hc : canL (cfg.still 71) av = [.agg (e_S_api_Member p0)]) (A : HH g h [] F) : ∃ v h', Runs cfg g h 71 av v h' ∧ v = .tuple [.agg (e_S_api_Member q0), vs e_S_api_Pair q1] ∧ HH g h' [] F := by
  refine runsQ7 (n := 10) (rs := [.cell 2 63, .tmp 3]) (by kernel_rfl) hc (by kernel_rfl) ?_
  clear hc
  unfold M_archive_bare at hm
  refine start (n := 10) [(0, .agg (e_S_api_Member p0))] (by kernel_rfl) (by kernel_rfl) ?_
  intro fr H
  refine aw_seq (by kernel_rfl) ?_
  refine aw_reg (id := 0) (n := 3) [(0, []), (1, []), (2, [])] (by kernel_rfl) (by kernel_rfl) ?_
  obtain ⟨h1, e1⟩ : ∃ x, x = h.push (.cells none 2 (e_S_api_Member p0)) := ⟨_, rfl⟩
  replace A := (A.push _).to e1
  refine at_step (v := .ptr (some (h.size, 0))) (h1 := h1) [(1, .ptr (some (h.size, 0)))] H (fun fr => by kernel_rfl) (fun fr => .of (s_n' (by kernel_rfl) (congrArg some e1.symm))) ?_
  intro fr t H
  obtain ⟨h2, e2⟩ : ∃ x, x = h1.push (.cells none 2 [.str ([] : List UInt8), .str ([] : List UInt8), .int .u8 (0 : Int), .int .i64 (0 : Int), .int .i64 (0 : Int), .int .i64 (0 : Int), .str ([] : List UInt8), .str ([] : List UInt8), .int .i64 (0 : Int), .int .i64 (0 : Int), .int .i64 (0 : Int), .int .i64 (0 : Int), .slice none 0, .str ([] : List UInt8)]) := ⟨_, rfl⟩
  replace A := (A.push _).to e2
  refine at_step (v := .ptr (some (h1.size, 0))) (h1 := h2) [(1, .ptr (some (h.size, 0))), (2, .ptr (some (h1.size, 0)))] H (fun fr => by kernel_rfl) (fun fr => .of (s_n' (by kernel_rfl) (congrArg some e2.symm))) ?_
  intro fr t H
  refine at_seg [(2, [])] [(1, .ptr (some (h.size, 0))), (2, .ptr (some (h1.size, 0)))] H (noU_all rfl) (fun fr => by kernel_rfl) ?_
  intro fr H
  refine at_nil ?_
  show AW cfg 71 g (right (bodyC cfg.P 71)) fr h2 _
  refine aw_seq (by kernel_rfl) ?_
  refine aw_reg (id := 1) (n := 3) [(0, []), (1, []), (2, [])] (by kernel_rfl) (by kernel_rfl) ?_
  refine at_seg [(0, [])] [(1, .ptr (some (h.size, 0))), (2, .ptr (some (h1.size, 0))), (5, .ptr (some (h.size, 12)))] H (noU_all rfl) (fun fr => by kernel_rfl) ?_
  intro fr H
  refine at_step (v := vs e_S_api_Pair p0.Extra) (h1 := h2) [(1, .ptr (some (h.size, 0))), (2, .ptr (some (h1.size, 0))), (6, vs e_S_api_Pair p0.Extra)] H (fun fr => by kernel_rfl) (fun fr => .of (s_ld (by kernel_rfl) (A.ld1 1 rfl (o := 12) rfl))) ?_
  intro fr t H
  refine at_seg [(2, [])] [(1, .ptr (some (h.size, 0))), (2, .ptr (some (h1.size, 0))), (4, vs e_S_api_Pair p0.Extra)] H (noU_all rfl) (fun fr => by kernel_rfl) ?_
  intro fr H
  refine at_nil ?_
  show AW cfg 71 g (right (right (bodyC cfg.P 71))) fr h2 _
  refine aw_seq (by kernel_rfl) ?_
  refine aw_reg (id := 2) (n := 2) [(0, []), (1, [])] (by kernel_rfl) (by kernel_rfl) ?_
  refine at_seg [(0, [])] [(1, .ptr (some (h.size, 0))), (2, .ptr (some (h1.size, 0))), (4, vs e_S_api_Pair p0.Extra), (7, .ptr (some (h.size, 12)))] H (noU_all rfl) (fun fr => by kernel_rfl) ?_
  intro fr H
  obtain ⟨h3, hx, A1⟩ := A.st 1 rfl (o := 12) (new := [.slice none 0]) (ds := [.str p0.Name, .str p0.Link, .int .u8 p0.Kind, .int .i64 p0.Mode, .int .i64 p0.Uid, .int .i64 p0.Gid, .str p0.Uname, .str p0.Gname, .int .i64 p0.Major, .int .i64 p0.Minor, .int .i64 p0.Time.Sec, .int .i64 p0.Time.Nsec, .slice none 0, .str p0.Data]) (Nat.le_of_ble_eq_true rfl) rfl rfl
  replace A : HH g h3 [.obj h1.size (.cells none 2 [.str ([] : List UInt8), .str ([] : List UInt8), .int .u8 (0 : Int), .int .i64 (0 : Int), .int .i64 (0 : Int), .int .i64 (0 : Int), .str ([] : List UInt8), .str ([] : List UInt8), .int .i64 (0 : Int), .int .i64 (0 : Int), .int .i64 (0 : Int), .int .i64 (0 : Int), .slice none 0, .str ([] : List UInt8)]), .obj h.size (.cells none 2 [.str p0.Name, .str p0.Link, .int .u8 p0.Kind, .int .i64 p0.Mode, .int .i64 p0.Uid, .int .i64 p0.Gid, .str p0.Uname, .str p0.Gname, .int .i64 p0.Major, .int .i64 p0.Minor, .int .i64 p0.Time.Sec, .int .i64 p0.Time.Nsec, .slice none 0, .str p0.Data])] F := A1
  refine at_step (v := .tuple []) (h1 := h3) [(1, .ptr (some (h.size, 0))), (2, .ptr (some (h1.size, 0))), (4, vs e_S_api_Pair p0.Extra)] H (fun fr => by kernel_rfl) (fun fr => .of (s_st (by kernel_rfl) rfl hx)) ?_
  intro fr t H
  refine at_nil ?_
  show AW cfg 71 g (right (right (right (bodyC cfg.P 71)))) fr h3 _
  refine aw_seq (by kernel_rfl) ?_
  refine aw_reg (id := 3) (n := 4) [(0, []), (1, []), (2, []), (3, [])] (by kernel_rfl) (by kernel_rfl) ?_
  refine at_step (v := .agg [.str p0.Name, .str p0.Link, .int .u8 p0.Kind, .int .i64 p0.Mode, .int .i64 p0.Uid, .int .i64 p0.Gid, .str p0.Uname, .str p0.Gname, .int .i64 p0.Major, .int .i64 p0.Minor, .int .i64 p0.Time.Sec, .int .i64 p0.Time.Nsec, .slice none 0, .str p0.Data]) (h1 := h3) [(2, .ptr (some (h1.size, 0))), (4, vs e_S_api_Pair p0.Extra), (8, .agg [.str p0.Name, .str p0.Link, .int .u8 p0.Kind, .int .i64 p0.Mode, .int .i64 p0.Uid, .int .i64 p0.Gid, .str p0.Uname, .str p0.Gname, .int .i64 p0.Major, .int .i64 p0.Minor, .int .i64 p0.Time.Sec, .int .i64 p0.Time.Nsec, .slice none 0, .str p0.Data])] H (fun fr => by kernel_rfl) (fun fr => .of (s_ldA (by kernel_rfl) (A.ldA 1 rfl (o := 0) (n := 14) ⟨Nat.le_of_ble_eq_true rfl, rfl⟩))) ?_
  intro fr t H
  refine at_seg [(1, [])] [(2, .ptr (some (h1.size, 0))), (8, .agg [.str p0.Name, .str p0.Link, .int .u8 p0.Kind, .int .i64 p0.Mode, .int .i64 p0.Uid, .int .i64 p0.Gid, .str p0.Uname, .str p0.Gname, .int .i64 p0.Major, .int .i64 p0.Minor, .int .i64 p0.Time.Sec, .int .i64 p0.Time.Nsec, .slice none 0, .str p0.Data]), (9, vs e_S_api_Pair p0.Extra)] H (noU_all rfl) (fun fr => by kernel_rfl) ?_
  intro fr H
  obtain ⟨h4, hx, A1⟩ := A.st 0 rfl (o := 0) (new := [.str p0.Name, .str p0.Link, .int .u8 p0.Kind, .int .i64 p0.Mode, .int .i64 p0.Uid, .int .i64 p0.Gid, .str p0.Uname, .str p0.Gname, .int .i64 p0.Major, .int .i64 p0.Minor, .int .i64 p0.Time.Sec, .int .i64 p0.Time.Nsec, .slice none 0, .str p0.Data]) (ds := [.str p0.Name, .str p0.Link, .int .u8 p0.Kind, .int .i64 p0.Mode, .int .i64 p0.Uid, .int .i64 p0.Gid, .str p0.Uname, .str p0.Gname, .int .i64 p0.Major, .int .i64 p0.Minor, .int .i64 p0.Time.Sec, .int .i64 p0.Time.Nsec, .slice none 0, .str p0.Data]) (Nat.le_of_ble_eq_true rfl) rfl rfl
  replace A : HH g h4 [.obj h1.size (.cells none 2 [.str p0.Name, .str p0.Link, .int .u8 p0.Kind, .int .i64 p0.Mode, .int .i64 p0.Uid, .int .i64 p0.Gid, .str p0.Uname, .str p0.Gname, .int .i64 p0.Major, .int .i64 p0.Minor, .int .i64 p0.Time.Sec, .int .i64 p0.Time.Nsec, .slice none 0, .str p0.Data]), .obj h.size (.cells none 2 [.str p0.Name, .str p0.Link, .int .u8 p0.Kind, .int .i64 p0.Mode, .int .i64 p0.Uid, .int .i64 p0.Gid, .str p0.Uname, .str p0.Gname, .int .i64 p0.Major, .int .i64 p0.Minor, .int .i64 p0.Time.Sec, .int .i64 p0.Time.Nsec, .slice none 0, .str p0.Data])] F := A1
  refine at_step (v := .tuple []) (h1 := h4) [(2, .ptr (some (h1.size, 0))), (9, vs e_S_api_Pair p0.Extra)] H (fun fr => by kernel_rfl) (fun fr => .of (s_stG (by kernel_rfl) (stG_st hx rfl))) ?_
  intro fr t H
  refine at_seg [(3, [])] [(2, .ptr (some (h1.size, 0))), (3, vs e_S_api_Pair p0.Extra)] H (noU_all rfl) (fun fr => by kernel_rfl) ?_
  intro fr H
  refine at_nil ?_
  show AW cfg 71 g (right (right (right (right (bodyC cfg.P 71))))) fr h4 _
  refine aw_ret (by kernel_rfl) ?_
  have e0 := Option.some.inj hm
  obtain ⟨y0, z0⟩ := Prod.mk.inj e0
  subst y0
  subst z0
  refine ⟨.inl rfl, .tuple [.agg [.str p0.Name, .str p0.Link, .int .u8 p0.Kind, .int .i64 p0.Mode, .int .i64 p0.Uid, .int .i64 p0.Gid, .str p0.Uname, .str p0.Gname, .int .i64 p0.Major, .int .i64 p0.Minor, .int .i64 p0.Time.Sec, .int .i64 p0.Time.Nsec, .slice none 0, .str p0.Data], vs e_S_api_Pair p0.Extra], resL_many (.cell (resT H (fun fr => by kernel_rfl)) (load_ldA (by kernel_rfl) (by kernel_rfl) (A.ldA 0 rfl (o := 0) (n := 14) ⟨Nat.le_of_ble_eq_true rfl, rfl⟩)) (.tmp (resT H (fun fr => by kernel_rfl)) .nil)), ?_⟩
  refine ⟨.tuple [.agg [.str p0.Name, .str p0.Link, .int .u8 p0.Kind, .int .i64 p0.Mode, .int .i64 p0.Uid, .int .i64 p0.Gid, .str p0.Uname, .str p0.Gname, .int .i64 p0.Major, .int .i64 p0.Minor, .int .i64 p0.Time.Sec, .int .i64 p0.Time.Nsec, vs e_S_api_Pair ([] : List S_api_Pair), .str p0.Data], vs e_S_api_Pair p0.Extra], h4, by first | rfl | (simp only [fz3T, fz3A, fz3B, fz3R, fz2A, fz2R, fz2V, fz2I, fz2B, fz2S, fz2N, fzL0, fzL1, fz1I, fz1B, fz1S, fz1V, fz1N, Option.map_some] <;> rfl), ?_⟩
  replace A : HH g h4 [] F := (HH.dropF A 0)
  exact ⟨rfl, A⟩
/-! ### slices.Equal[[]boulter/api.Pair,boulter/api.Pair] -/
noncomputable def M_slices_Equal_boulter_api_Pair_boulter_api_Pair_L0 (p0 : List S_api_Pair) (p1 : List S_api_Pair) (s : Int) : Option ((Int) ⊕ ((Unit) ⊕ (Bool))) :=
  match s with
  | x1 => iteB (decide (x1 < (p0.length : Int))) ((ixV p0 x1).bind fun x3 => (ixV p1 x1).bind fun x4 => (eqG cfg.P 88 [.str x3.Key, .str x3.Value] [.str x4.Key, .str x4.Value]).bind fun x5 => iteB (!x5) (some (.inr (.inr false))) (some (.inl (IntKind.i64.wrap (x1 + (1 : Int)))))) (some (.inr (.inl ())))
noncomputable def M_slices_Equal_boulter_api_Pair_boulter_api_Pair (p0 : List S_api_Pair) (p1 : List S_api_Pair) : Option (Bool) :=
 iteB ((p0.length : Int) != (p1.length : Int)) (some false) ((loop (M_slices_Equal_boulter_api_Pair_boulter_api_Pair_L0 p0 p1) (0 : Int)).bind fun o1 => (match o1 with | .inl _ => some true | .inr x2 => some x2))
theorem ok_slices_Equal_boulter_api_Pair_boulter_api_Pair {g : Gd} {h : AHeap} {F : List Ck} {p0 : List S_api_Pair} {p1 : List S_api_Pair} {q0 : Bool} {av : List AVal} (hm : M_slices_Equal_boulter_api_Pair_boulter_api_Pair p0 p1 = some q0) (hc : canL (cfg.still 72) av = [vs e_S_api_Pair p0, vs e_S_api_Pair p1]) (A : HH g h [] F) : ∃ v h', Runs cfg g h 72 av v h' ∧ v = .bool q0 ∧ HH g h' [] F := by
  refine runsQ1 (n := 26) (rs := [.tmp 4]) (by kernel_rfl) hc (by kernel_rfl) ?_
  clear hc
  unfold M_slices_Equal_boulter_api_Pair_boulter_api_Pair at hm
  refine start (n := 26) [(0, vs e_S_api_Pair p0), (1, vs e_S_api_Pair p1)] (by kernel_rfl) (by kernel_rfl) ?_
  intro fr H
  refine aw_seq (by kernel_rfl) ?_
  refine aw_reg (id := 0) (n := 1) [(0, [])] (by kernel_rfl) (by kernel_rfl) ?_
  refine at_seg [(0, [])] [(0, vs e_S_api_Pair p0), (1, vs e_S_api_Pair p1)] H (noU_all rfl) (fun fr => by kernel_rfl) ?_
  intro fr H
  refine at_nil ?_
  show AW cfg 72 g (right (bodyC cfg.P 72)) fr h _
  refine aw_seq (by kernel_rfl) ?_
  refine aw_seq (by kernel_rfl) ?_
  refine aw_reg (id := 1) (n := 5) [(0, []), (1, []), (2, []), (3, []), (4, [])] (by kernel_rfl) (by kernel_rfl) ?_
  refine at_seg [(0, []), (1, []), (2, []), (3, []), (4, [])] [(0, vs e_S_api_Pair p0), (1, vs e_S_api_Pair p1), (10, .bool ((p0.length : Int) != (p1.length : Int)))] H (noU_all rfl) (fun fr => by kernel_rfl) ?_
  intro fr H
  refine at_nil ?_
  show AW cfg 72 g (right (left (right (bodyC cfg.P 72)))) fr h _
  rcases iteB_some hm with ⟨hb, hm⟩ | ⟨hb, hm⟩
  · replace H := H.know 10 hb (by kernel_rfl)
    refine aw_true (x := .tmp 10) (by kernel_rfl) H (fun fr => by kernel_rfl) ?_
    refine aw_seq (by kernel_rfl) ?_
    refine aw_reg (id := 2) (n := 1) [(0, [])] (by kernel_rfl) (by kernel_rfl) ?_
    refine at_seg [(0, [])] [(4, .bool false)] H (noU_all rfl) (fun fr => by kernel_rfl) ?_
    intro fr H
    refine at_nil ?_
    show AW cfg 72 g (right (left (right (left (right (bodyC cfg.P 72)))))) fr h _
    refine aw_ret (by kernel_rfl) ?_
    have e1 := Option.some.inj hm
    subst e1
    refine ⟨.inl rfl, .bool false, resH H (fun fr => by kernel_rfl), ?_⟩
    exact ⟨rfl, A⟩
  · replace H := H.know 10 hb (by kernel_rfl)
    refine aw_false (x := .tmp 10) (by kernel_rfl) H (fun fr => by kernel_rfl) ?_
    refine aw_skip (by kernel_rfl) ?_
    show AW cfg 72 g (right (right (bodyC cfg.P 72))) fr h _
    refine aw_seq (by kernel_rfl) ?_
    refine aw_seq (by kernel_rfl) ?_
    refine aw_reg (id := 3) (n := 3) [(0, []), (1, []), (2, [])] (by kernel_rfl) (by kernel_rfl) ?_
    refine at_seg [(0, []), (1, []), (2, [])] [(0, vs e_S_api_Pair p0), (1, vs e_S_api_Pair p1), (12, .int .i64 (p0.length : Int)), (13, .int .i64 (0 : Int))] H (noU_all rfl) (fun fr => by kernel_rfl) ?_
    intro fr H
    refine at_nil ?_
    show AW cfg 72 g (right (left (right (right (bodyC cfg.P 72))))) fr h _
    refine aw_block (id := 0) (by kernel_rfl) ?_
    obtain ⟨o1, ho, hm⟩ := bind_some hm
    refine aw_mono (Q' := fun e fr' h' => (e = .exit 0 ∧ .inl () = o1 ∧ Has fr' 26 [] ∧ HH g h' [] F) ∨ (∃ (x2 : Bool), e = .ret ∧ .inr x2 = o1 ∧ Has fr' 26 [(4, .bool x2)] ∧ HH g h' [] F) ∨ False) ?_ ?_
    · refine aw_loop (by kernel_rfl) (fun (s : Int) fr' h' => ∃ (x1 : Int), x1 = s ∧ Has fr' 26 [(0, vs e_S_api_Pair p0), (1, vs e_S_api_Pair p1), (12, .int .i64 (p0.length : Int)), (13, .int .i64 x1)] ∧ HH g h' [] F) ho ⟨(0 : Int), rfl, H.less _ (fun fr => by kernel_rfl), A⟩ ?_
      clear ho hm H A
      intro s q fr h1 hI hm
      obtain ⟨x1, rfl, H, A⟩ := hI
      unfold M_slices_Equal_boulter_api_Pair_boulter_api_Pair_L0 at hm
      refine aw_seq (by kernel_rfl) ?_
      refine aw_reg (id := 4) (n := 1) [(0, [])] (by kernel_rfl) (by kernel_rfl) ?_
      refine at_seg [(0, [])] [(0, vs e_S_api_Pair p0), (1, vs e_S_api_Pair p1), (12, .int .i64 (p0.length : Int)), (13, .int .i64 x1), (14, .bool (decide (x1 < (p0.length : Int))))] H (noU_all rfl) (fun fr => by kernel_rfl) ?_
      intro fr H
      refine at_nil ?_
      show AW cfg 72 g (right (left (left (right (left (right (right (bodyC cfg.P 72)))))))) fr h1 _
      refine aw_seq (by kernel_rfl) ?_
      rcases iteB_some hm with ⟨hb, hm⟩ | ⟨hb, hm⟩
      · replace H := H.know 14 hb (by kernel_rfl)
        refine aw_true (x := .tmp 14) (by kernel_rfl) H (fun fr => by kernel_rfl) ?_
        refine aw_skip (by kernel_rfl) ?_
        show AW cfg 72 g (right (right (left (left (right (left (right (right (bodyC cfg.P 72))))))))) fr h1 _
        refine aw_seq (by kernel_rfl) ?_
        refine aw_block (id := 1) (by kernel_rfl) ?_
        refine aw_seq (by kernel_rfl) ?_
        refine aw_reg (id := 5) (n := 2) [(0, []), (1, [])] (by kernel_rfl) (by kernel_rfl) ?_
        refine at_seg [(0, []), (1, [])] [(0, vs e_S_api_Pair p0), (1, vs e_S_api_Pair p1), (5, .int .i64 x1), (12, .int .i64 (p0.length : Int)), (13, .int .i64 x1)] H (noU_all rfl) (fun fr => by kernel_rfl) ?_
        intro fr H
        refine at_nil ?_
        show AW cfg 72 g (right (left (left (right (right (left (left (right (left (right (right (bodyC cfg.P 72)))))))))))) fr h1 _
        refine aw_seq (by kernel_rfl) ?_
        refine aw_draw (id := 6) (n := 9) (by kernel_rfl) [(0, []), (1, []), (2, []), (3, []), (4, []), (5, []), (6, []), (7, []), (8, [])] (by kernel_rfl) ?_
        refine at_seg [(0, []), (1, [])] [(0, vs e_S_api_Pair p0), (1, vs e_S_api_Pair p1), (5, .int .i64 x1), (12, .int .i64 (p0.length : Int)), (13, .int .i64 x1), (16, vs e_S_api_Pair p0), (17, .int .i64 x1)] H (noU_all rfl) (fun fr => by kernel_rfl) ?_
        intro fr H
        obtain ⟨x3, hx, hm⟩ := bind_some hm
        refine at_step (v := .vptr [.str x3.Key, .str x3.Value]) (h1 := h1) [(0, vs e_S_api_Pair p0), (1, vs e_S_api_Pair p1), (5, .int .i64 x1), (12, .int .i64 (p0.length : Int)), (13, .int .i64 x1), (18, .vptr [.str x3.Key, .str x3.Value])] H (fun fr => by kernel_rfl) (fun fr => .of (s_ixV (e := e_S_api_Pair) (x := x3) enc_S_api_Pair (by decide) (by kernel_rfl) hx)) ?_
        intro fr t H
        refine at_step (v := .agg [.str x3.Key, .str x3.Value]) (h1 := h1) [(0, vs e_S_api_Pair p0), (1, vs e_S_api_Pair p1), (5, .int .i64 x1), (12, .int .i64 (p0.length : Int)), (13, .int .i64 x1), (19, .agg [.str x3.Key, .str x3.Value])] H (fun fr => by kernel_rfl) (fun fr => .of (s_lv (by kernel_rfl))) ?_
        intro fr t H
        refine at_seg [(4, []), (5, [])] [(0, vs e_S_api_Pair p0), (1, vs e_S_api_Pair p1), (12, .int .i64 (p0.length : Int)), (13, .int .i64 x1), (19, .agg [.str x3.Key, .str x3.Value]), (20, vs e_S_api_Pair p1), (21, .int .i64 x1)] H (noU_all rfl) (fun fr => by kernel_rfl) ?_
        intro fr H
        obtain ⟨x4, hx, hm⟩ := bind_some hm
        refine at_step (v := .vptr [.str x4.Key, .str x4.Value]) (h1 := h1) [(0, vs e_S_api_Pair p0), (1, vs e_S_api_Pair p1), (12, .int .i64 (p0.length : Int)), (13, .int .i64 x1), (19, .agg [.str x3.Key, .str x3.Value]), (22, .vptr [.str x4.Key, .str x4.Value])] H (fun fr => by kernel_rfl) (fun fr => .of (s_ixV (e := e_S_api_Pair) (x := x4) enc_S_api_Pair (by decide) (by kernel_rfl) hx)) ?_
        intro fr t H
        refine at_step (v := .agg [.str x4.Key, .str x4.Value]) (h1 := h1) [(0, vs e_S_api_Pair p0), (1, vs e_S_api_Pair p1), (12, .int .i64 (p0.length : Int)), (13, .int .i64 x1), (19, .agg [.str x3.Key, .str x3.Value]), (23, .agg [.str x4.Key, .str x4.Value])] H (fun fr => by kernel_rfl) (fun fr => .of (s_lv (by kernel_rfl))) ?_
        intro fr t H
        obtain ⟨x5, hx, hm⟩ := bind_some hm
        refine at_step (v := .bool (!x5)) (h1 := h1) [(0, vs e_S_api_Pair p0), (1, vs e_S_api_Pair p1), (12, .int .i64 (p0.length : Int)), (13, .int .i64 x1), (24, .bool (!x5))] H (fun fr => by kernel_rfl) (fun fr => .of (s_neG (by kernel_rfl) hx)) ?_
        intro fr t H
        refine at_nil ?_
        show AW cfg 72 g (right (right (left (left (right (right (left (left (right (left (right (right (bodyC cfg.P 72))))))))))))) fr h1 _
        rcases iteB_some hm with ⟨hb, hm⟩ | ⟨hb, hm⟩
        · replace H := H.know 24 hb (by kernel_rfl)
          refine aw_true (x := .tmp 24) (by kernel_rfl) H (fun fr => by kernel_rfl) ?_
          refine aw_seq (by kernel_rfl) ?_
          refine aw_reg (id := 7) (n := 1) [(0, [])] (by kernel_rfl) (by kernel_rfl) ?_
          refine at_seg [(0, [])] [(4, .bool false)] H (noU_all rfl) (fun fr => by kernel_rfl) ?_
          intro fr H
          refine at_nil ?_
          show AW cfg 72 g (right (left (right (right (left (left (right (right (left (left (right (left (right (right (bodyC cfg.P 72))))))))))))))) fr h1 _
          refine aw_ret (by kernel_rfl) ?_
          exact Exists.intro _ (And.intro (Option.some.inj hm).symm (fun e => Or.inr (Or.inl ⟨false, rfl, e, H.less _ (fun fr => by kernel_rfl), A⟩)))
        · replace H := H.know 24 hb (by kernel_rfl)
          refine aw_false (x := .tmp 24) (by kernel_rfl) H (fun fr => by kernel_rfl) ?_
          refine aw_skip (by kernel_rfl) ?_
          show AW cfg 72 g (right (right (right (left (left (right (left (right (right (bodyC cfg.P 72)))))))))) fr h1 _
          refine aw_reg (id := 8) (n := 2) [(0, []), (1, [])] (by kernel_rfl) (by kernel_rfl) ?_
          refine at_seg [(0, []), (1, [])] [(0, vs e_S_api_Pair p0), (1, vs e_S_api_Pair p1), (12, .int .i64 (p0.length : Int)), (13, .int .i64 (IntKind.i64.wrap (x1 + (1 : Int))))] H (noU_all rfl) (fun fr => by kernel_rfl) ?_
          intro fr H
          refine at_nil ?_
          exact Exists.intro (IntKind.i64.wrap (x1 + (1 : Int))) (And.intro (Option.some.inj hm).symm ⟨IntKind.i64.wrap (x1 + (1 : Int)), rfl, H.less _ (fun fr => by kernel_rfl), A⟩)
      · replace H := H.know 14 hb (by kernel_rfl)
        refine aw_false (x := .tmp 14) (by kernel_rfl) H (fun fr => by kernel_rfl) ?_
        refine aw_exit (i := 0) (by kernel_rfl) ?_
        exact Exists.intro _ (And.intro (Option.some.inj hm).symm (fun e => Or.inl ⟨rfl, e, H.less _ (fun fr => by kernel_rfl), A⟩))
    · clear ho
      clear A
      intro e fr h2 hQ
      rcases hQ with ⟨rfl, rfl, H, A⟩ | ⟨x2, rfl, rfl, H, A⟩ | hF
      · skip
        show AW cfg 72 g (right (right (right (bodyC cfg.P 72)))) fr h2 _
        refine aw_seq (by kernel_rfl) ?_
        refine aw_reg (id := 9) (n := 1) [(0, [])] (by kernel_rfl) (by kernel_rfl) ?_
        refine at_seg [(0, [])] [(4, .bool true)] H (noU_all rfl) (fun fr => by kernel_rfl) ?_
        intro fr H
        refine at_nil ?_
        show AW cfg 72 g (right (right (right (right (bodyC cfg.P 72))))) fr h2 _
        refine aw_ret (by kernel_rfl) ?_
        have e1 := Option.some.inj hm
        subst e1
        refine ⟨.inl rfl, .bool true, resH H (fun fr => by kernel_rfl), ?_⟩
        exact ⟨rfl, A⟩
      · skip
        have e1 := Option.some.inj hm
        subst e1
        refine ⟨.inl rfl, .bool x2, resH H (fun fr => by kernel_rfl), ?_⟩
        exact ⟨rfl, A⟩
      · exact hF.elim
end Go.Av.L
