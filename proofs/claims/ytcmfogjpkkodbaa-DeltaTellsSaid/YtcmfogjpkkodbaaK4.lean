/-
  Models of functions, and that the abstract run tells them. Written by lift2.py.
-/
import Derived.Test.YtcmfogjpkkodbaaKCfg
import Derived.Test.YtcmfogjpkkodbaaK0
import Derived.Test.YtcmfogjpkkodbaaK1
import Derived.Test.YtcmfogjpkkodbaaK2
import Derived.Test.YtcmfogjpkkodbaaK3
namespace Go.Av.L
open Go.Av Go.Lib
set_option maxRecDepth 10000
set_option linter.unusedVariables false
set_option linter.unusedSimpArgs false
/-! ### slices.stableCmpFunc[boulter/api.Member] -/
noncomputable def M_slices_stableCmpFunc_boulter_api_Member_sOIF_04e2_L0 (p1 : Int) (s : (List S_api_Member) × Int × Int) : Option (((List S_api_Member) × Int × Int) ⊕ (((List S_api_Member) × Int))) :=
  match s with
  | (x1, x2, x3) => iteB (decide (x3 ≤ p1)) ((M_slices_insertionSortCmpFunc_boulter_api_Member_sOIIF_8ba1 x1 x2 x3).bind fun x6 => some (.inl (x6, x3, IntKind.i64.wrap (x3 + (20 : Int))))) (some (.inr (x1, x2)))
noncomputable def M_slices_stableCmpFunc_boulter_api_Member_sOIF_04e2_L2 (p1 : Int) (s : Int × Int) : Option ((Int × Int) ⊕ ((Int))) :=
  match s with
  | (x9, x10) => iteB (decide (x10 ≤ p1)) (none) (some (.inr x9))
noncomputable def M_slices_stableCmpFunc_boulter_api_Member_sOIF_04e2_L1 (p1 : Int) (s : Int) : Option ((Int) ⊕ ((Unit))) :=
  match s with
  | x8 => iteB (decide (x8 < p1)) ((loop (M_slices_stableCmpFunc_boulter_api_Member_sOIF_04e2_L2 p1) ((0 : Int), IntKind.i64.wrap ((2 : Int) * x8))).bind fun x11 => (iteB (decide ((IntKind.i64.wrap (x11 + x8)) < p1)) (none) (some ()) : Option ((Unit))).bind fun _ => some (.inl (IntKind.i64.wrap (x8 * (2 : Int))))) (some (.inr ()))
noncomputable def M_slices_stableCmpFunc_boulter_api_Member_sOIF_04e2 (p0 : List S_api_Member) (p1 : Int) : Option ((List S_api_Member)) :=
 (loop (M_slices_stableCmpFunc_boulter_api_Member_sOIF_04e2_L0 p1) (p0, (0 : Int), (20 : Int))).bind fun (x4, x5) => (M_slices_insertionSortCmpFunc_boulter_api_Member_sOIIF_8ba1 x4 x5 p1).bind fun x7 => (loop (M_slices_stableCmpFunc_boulter_api_Member_sOIF_04e2_L1 p1) (20 : Int)).bind fun _ => some x7
theorem ok_slices_stableCmpFunc_boulter_api_Member_sOIF_04e2 {g : Gd} {h : AHeap} {F : List Ck} {p0 : List S_api_Member} {p1 : Int} {rp0 : Option Nat} {u0 : List S_api_Member} {av : List AVal} (hm : M_slices_stableCmpFunc_boulter_api_Member_sOIF_04e2 p0 p1 = some u0) (hc : canL (cfg.still 82) av = [rowV rp0 p0.length, .int .i64 p1, .func (.func 74) [] []]) (A : HH g h [.lst rp0 63 (lst e_S_api_Member p0)] F) : ∃ v h', Runs cfg g h 82 av v h' ∧ ∃ (hl'0 : u0.length = p0.length), v = .tuple [] ∧ HH g h' [.lst rp0 63 (lst e_S_api_Member u0)] F := by
  refine runsQ1 (n := 63) (rs := []) (by kernel_rfl) hc (by kernel_rfl) ?_
  clear hc
  unfold M_slices_stableCmpFunc_boulter_api_Member_sOIF_04e2 at hm
  refine start (n := 63) [(0, rowV rp0 p0.length), (1, .int .i64 p1), (2, .func (.func 74) [] [])] (by kernel_rfl) (by kernel_rfl) ?_
  intro fr H
  refine aw_seq (by kernel_rfl) ?_
  refine aw_reg (id := 0) (n := 1) [(0, [])] (by kernel_rfl) (by kernel_rfl) ?_
  refine at_seg [(0, [])] [(0, rowV rp0 p0.length), (1, .int .i64 p1), (2, .func (.func 74) [] []), (6, .int .i64 (20 : Int))] H (noU_all rfl) (fun fr => by kernel_rfl) ?_
  intro fr H
  refine at_nil ?_
  show AW cfg 82 g (right (bodyC cfg.P 82)) fr h _
  refine aw_seq (by kernel_rfl) ?_
  refine aw_reg (id := 1) (n := 3) [(0, []), (1, []), (2, [])] (by kernel_rfl) (by kernel_rfl) ?_
  refine at_seg [(0, []), (1, []), (2, [])] [(0, rowV rp0 p0.length), (1, .int .i64 p1), (2, .func (.func 74) [] []), (6, .int .i64 (20 : Int)), (7, .int .i64 (0 : Int)), (8, .int .i64 (20 : Int))] H (noU_all rfl) (fun fr => by kernel_rfl) ?_
  intro fr H
  refine at_nil ?_
  show AW cfg 82 g (right (right (bodyC cfg.P 82))) fr h _
  refine aw_seq (by kernel_rfl) ?_
  refine aw_block (id := 0) (by kernel_rfl) ?_
  obtain ⟨o1, ho, hm⟩ := bind_some hm
  refine aw_mono (Q' := fun e fr' h' => (∃ (x4 : List S_api_Member) (x5 : Int), e = .exit 0 ∧ (x4, x5) = o1 ∧ ∃ (hl2 : x4.length = p0.length), Has fr' 63 [(0, rowV rp0 x4.length), (1, .int .i64 p1), (2, .func (.func 74) [] []), (6, .int .i64 (20 : Int)), (7, .int .i64 x5)] ∧ HH g h' [.lst rp0 63 (lst e_S_api_Member x4)] F) ∨ False) ?_ ?_
  · refine aw_loop (by kernel_rfl) (fun (s : (List S_api_Member) × Int × Int) fr' h' => ∃ (x1 : List S_api_Member) (x2 : Int) (x3 : Int), (x1, x2, x3) = s ∧ ∃ (hl1 : x1.length = p0.length), Has fr' 63 [(0, rowV rp0 x1.length), (1, .int .i64 p1), (2, .func (.func 74) [] []), (6, .int .i64 (20 : Int)), (7, .int .i64 x2), (8, .int .i64 x3)] ∧ HH g h' [.lst rp0 63 (lst e_S_api_Member x1)] F) ho ⟨p0, (0 : Int), (20 : Int), rfl, rfl, H.less _ (fun fr => by kernel_rfl), A⟩ ?_
    clear ho hm H A
    intro s q fr h1 hI hm
    obtain ⟨x1, x2, x3, rfl, hl1, H, A⟩ := hI
    unfold M_slices_stableCmpFunc_boulter_api_Member_sOIF_04e2_L0 at hm
    refine aw_seq (by kernel_rfl) ?_
    refine aw_seq (by kernel_rfl) ?_
    refine aw_reg (id := 2) (n := 3) [(0, []), (1, []), (2, [])] (by kernel_rfl) (by kernel_rfl) ?_
    refine at_seg [(0, []), (1, []), (2, [])] [(0, rowV rp0 x1.length), (1, .int .i64 p1), (2, .func (.func 74) [] []), (6, .int .i64 (20 : Int)), (7, .int .i64 x2), (8, .int .i64 x3), (13, .bool (decide (x3 ≤ p1)))] H (noU_all rfl) (fun fr => by kernel_rfl) ?_
    intro fr H
    refine at_nil ?_
    show AW cfg 82 g (right (left (left (left (left (right (right (bodyC cfg.P 82)))))))) fr h1 _
    rcases iteB_some hm with ⟨hb, hm⟩ | ⟨hb, hm⟩
    · replace H := H.know 13 hb (by kernel_rfl)
      refine aw_true (x := .tmp 13) (by kernel_rfl) H (fun fr => by kernel_rfl) ?_
      refine aw_skip (by kernel_rfl) ?_
      show AW cfg 82 g (right (left (left (left (right (right (bodyC cfg.P 82))))))) fr h1 _
      refine aw_block (id := 1) (by kernel_rfl) ?_
      refine aw_seq (by kernel_rfl) ?_
      refine aw_reg (id := 3) (n := 5) [(0, []), (1, []), (2, []), (3, []), (4, [])] (by kernel_rfl) (by kernel_rfl) ?_
      refine at_seg [(0, []), (1, []), (2, []), (3, [])] [(0, rowV rp0 x1.length), (1, .int .i64 p1), (2, .func (.func 74) [] []), (6, .int .i64 (20 : Int)), (8, .int .i64 x3), (14, rowV rp0 x1.length), (15, .int .i64 x2), (16, .int .i64 x3), (17, .func (.func 74) [] [])] H (noU_all rfl) (fun fr => by kernel_rfl) ?_
      intro fr H
      have A1 := A.cut 1
      obtain ⟨x6, hx, hm⟩ := bind_some hm
      obtain ⟨v1, h2, hr, hl3, rfl, A1⟩ := ok_slices_insertionSortCmpFunc_boulter_api_Member_sOIIF_8ba1 (av := [rowV rp0 x1.length, .int .i64 x2, .int .i64 x3, .func (.func 74) [] []]) hx (by kernel_rfl) A1
      have hl4 : x6.length = p0.length := hl3.trans hl1
      have el : rowV rp0 x1.length = rowV rp0 x6.length := congrArg _ hl3.symm
      try rw [el] at H
      try rw [el] at hr
      try rw [el] at A1
      replace A : HH g h2 [.lst rp0 63 (lst e_S_api_Member x6)] F := A.glue0 (n := 1) A1
      refine at_step (v := .tuple []) (h1 := h2) [(0, rowV rp0 x6.length), (1, .int .i64 p1), (2, .func (.func 74) [] []), (6, .int .i64 (20 : Int)), (8, .int .i64 x3)] H (fun fr => by kernel_rfl) (fun fr => Steps.call (by kernel_rfl) hr) ?_
      intro fr t H
      refine at_nil ?_
      show AW cfg 82 g (right (left (right (left (left (left (right (right (bodyC cfg.P 82))))))))) fr h2 _
      refine aw_seq (by kernel_rfl) ?_
      refine aw_reg (id := 4) (n := 2) [(0, []), (1, [])] (by kernel_rfl) (by kernel_rfl) ?_
      refine at_seg [(0, []), (1, [])] [(0, rowV rp0 x6.length), (1, .int .i64 p1), (2, .func (.func 74) [] []), (6, .int .i64 (20 : Int)), (7, .int .i64 x3), (8, .int .i64 x3)] H (noU_all rfl) (fun fr => by kernel_rfl) ?_
      intro fr H
      refine at_nil ?_
      show AW cfg 82 g (right (right (left (right (left (left (left (right (right (bodyC cfg.P 82)))))))))) fr h2 _
      refine aw_reg (id := 5) (n := 4) [(0, []), (1, []), (2, []), (3, [])] (by kernel_rfl) (by kernel_rfl) ?_
      refine at_seg [(0, []), (1, []), (2, []), (3, [])] [(0, rowV rp0 x6.length), (1, .int .i64 p1), (2, .func (.func 74) [] []), (6, .int .i64 (20 : Int)), (7, .int .i64 x3), (8, .int .i64 (IntKind.i64.wrap (x3 + (20 : Int))))] H (noU_all rfl) (fun fr => by kernel_rfl) ?_
      intro fr H
      refine at_nil ?_
      exact Exists.intro (x6, x3, IntKind.i64.wrap (x3 + (20 : Int))) (And.intro (Option.some.inj hm).symm ⟨x6, x3, IntKind.i64.wrap (x3 + (20 : Int)), rfl, hl4, H.less _ (fun fr => by kernel_rfl), A⟩)
    · replace H := H.know 13 hb (by kernel_rfl)
      refine aw_false (x := .tmp 13) (by kernel_rfl) H (fun fr => by kernel_rfl) ?_
      refine aw_exit (i := 0) (by kernel_rfl) ?_
      exact Exists.intro _ (And.intro (Option.some.inj hm).symm (fun e => Or.inl ⟨x1, x2, rfl, e, hl1, H.less _ (fun fr => by kernel_rfl), A⟩))
  · clear ho
    clear A
    intro e fr h3 hQ
    rcases hQ with ⟨x4, x5, rfl, rfl, hl2, H, A⟩ | hF
    · skip
      show AW cfg 82 g (right (right (right (bodyC cfg.P 82)))) fr h3 _
      refine aw_seq (by kernel_rfl) ?_
      refine aw_reg (id := 6) (n := 5) [(0, []), (1, []), (2, []), (3, []), (4, [])] (by kernel_rfl) (by kernel_rfl) ?_
      refine at_seg [(0, []), (1, []), (2, []), (3, [])] [(0, rowV rp0 x4.length), (1, .int .i64 p1), (2, .func (.func 74) [] []), (6, .int .i64 (20 : Int)), (23, rowV rp0 x4.length), (24, .int .i64 x5), (25, .int .i64 p1), (26, .func (.func 74) [] [])] H (noU_all rfl) (fun fr => by kernel_rfl) ?_
      intro fr H
      have A1 := A.cut 1
      obtain ⟨x7, hx, hm⟩ := bind_some hm
      obtain ⟨v1, h4, hr, hl5, rfl, A1⟩ := ok_slices_insertionSortCmpFunc_boulter_api_Member_sOIIF_8ba1 (av := [rowV rp0 x4.length, .int .i64 x5, .int .i64 p1, .func (.func 74) [] []]) hx (by kernel_rfl) A1
      have hl6 : x7.length = p0.length := hl5.trans hl2
      have el : rowV rp0 x4.length = rowV rp0 x7.length := congrArg _ hl5.symm
      try rw [el] at H
      try rw [el] at hr
      try rw [el] at A1
      replace A : HH g h4 [.lst rp0 63 (lst e_S_api_Member x7)] F := A.glue0 (n := 1) A1
      refine at_step (v := .tuple []) (h1 := h4) [(0, rowV rp0 x7.length), (1, .int .i64 p1), (2, .func (.func 74) [] []), (6, .int .i64 (20 : Int))] H (fun fr => by kernel_rfl) (fun fr => Steps.call (by kernel_rfl) hr) ?_
      intro fr t H
      refine at_nil ?_
      show AW cfg 82 g (right (right (right (right (bodyC cfg.P 82))))) fr h4 _
      refine aw_block (id := 2) (by kernel_rfl) ?_
      obtain ⟨o2, ho, hm⟩ := bind_some hm
      refine aw_mono (Q' := fun e fr' h' => (e = .exit 2 ∧ () = o2 ∧ Has fr' 63 [] ∧ HH g h' [.lst rp0 63 (lst e_S_api_Member x7)] F) ∨ False) ?_ ?_
      · refine aw_loop (by kernel_rfl) (fun (s : Int) fr' h' => ∃ (x8 : Int), x8 = s ∧ Has fr' 63 [(0, rowV rp0 x7.length), (1, .int .i64 p1), (2, .func (.func 74) [] []), (6, .int .i64 x8)] ∧ HH g h' [.lst rp0 63 (lst e_S_api_Member x7)] F) ho ⟨(20 : Int), rfl, H.less _ (fun fr => by kernel_rfl), A⟩ ?_
        clear ho hm H A
        intro s q fr h5 hI hm
        obtain ⟨x8, rfl, H, A⟩ := hI
        unfold M_slices_stableCmpFunc_boulter_api_Member_sOIF_04e2_L1 at hm
        refine aw_seq (by kernel_rfl) ?_
        refine aw_seq (by kernel_rfl) ?_
        refine aw_reg (id := 7) (n := 3) [(0, []), (1, []), (2, [])] (by kernel_rfl) (by kernel_rfl) ?_
        refine at_seg [(0, []), (1, []), (2, [])] [(0, rowV rp0 x7.length), (1, .int .i64 p1), (2, .func (.func 74) [] []), (6, .int .i64 x8), (30, .bool (decide (x8 < p1)))] H (noU_all rfl) (fun fr => by kernel_rfl) ?_
        intro fr H
        refine at_nil ?_
        show AW cfg 82 g (right (left (left (left (right (right (right (right (bodyC cfg.P 82))))))))) fr h5 _
        rcases iteB_some hm with ⟨hb, hm⟩ | ⟨hb, hm⟩
        · replace H := H.know 30 hb (by kernel_rfl)
          refine aw_true (x := .tmp 30) (by kernel_rfl) H (fun fr => by kernel_rfl) ?_
          refine aw_skip (by kernel_rfl) ?_
          show AW cfg 82 g (right (left (left (right (right (right (right (bodyC cfg.P 82)))))))) fr h5 _
          refine aw_block (id := 3) (by kernel_rfl) ?_
          refine aw_seq (by kernel_rfl) ?_
          refine aw_reg (id := 8) (n := 4) [(0, []), (1, []), (2, []), (3, [])] (by kernel_rfl) (by kernel_rfl) ?_
          refine at_seg [(0, []), (1, []), (2, []), (3, [])] [(0, rowV rp0 x7.length), (1, .int .i64 p1), (2, .func (.func 74) [] []), (6, .int .i64 x8), (7, .int .i64 (0 : Int)), (8, .int .i64 (IntKind.i64.wrap ((2 : Int) * x8)))] H (noU_all rfl) (fun fr => by kernel_rfl) ?_
          intro fr H
          refine at_nil ?_
          show AW cfg 82 g (right (left (right (left (left (right (right (right (right (bodyC cfg.P 82)))))))))) fr h5 _
          refine aw_seq (by kernel_rfl) ?_
          refine aw_block (id := 4) (by kernel_rfl) ?_
          obtain ⟨o3, ho, hm⟩ := bind_some hm
          refine aw_mono (Q' := fun e fr' h' => (∃ (x11 : Int), e = .exit 4 ∧ x11 = o3 ∧ Has fr' 63 [(0, rowV rp0 x7.length), (1, .int .i64 p1), (2, .func (.func 74) [] []), (6, .int .i64 x8), (7, .int .i64 x11)] ∧ HH g h' [.lst rp0 63 (lst e_S_api_Member x7)] F) ∨ False) ?_ ?_
          · refine aw_loop (by kernel_rfl) (fun (s : Int × Int) fr' h' => ∃ (x9 : Int) (x10 : Int), (x9, x10) = s ∧ Has fr' 63 [(0, rowV rp0 x7.length), (1, .int .i64 p1), (2, .func (.func 74) [] []), (6, .int .i64 x8), (7, .int .i64 x9), (8, .int .i64 x10)] ∧ HH g h' [.lst rp0 63 (lst e_S_api_Member x7)] F) ho ⟨(0 : Int), IntKind.i64.wrap ((2 : Int) * x8), rfl, H.less _ (fun fr => by kernel_rfl), A⟩ ?_
            clear ho hm H A
            intro s q fr h6 hI hm
            obtain ⟨x9, x10, rfl, H, A⟩ := hI
            unfold M_slices_stableCmpFunc_boulter_api_Member_sOIF_04e2_L2 at hm
            refine aw_seq (by kernel_rfl) ?_
            refine aw_seq (by kernel_rfl) ?_
            refine aw_reg (id := 9) (n := 3) [(0, []), (1, []), (2, [])] (by kernel_rfl) (by kernel_rfl) ?_
            refine at_seg [(0, []), (1, []), (2, [])] [(0, rowV rp0 x7.length), (1, .int .i64 p1), (2, .func (.func 74) [] []), (6, .int .i64 x8), (7, .int .i64 x9), (8, .int .i64 x10), (35, .bool (decide (x10 ≤ p1)))] H (noU_all rfl) (fun fr => by kernel_rfl) ?_
            intro fr H
            refine at_nil ?_
            show AW cfg 82 g (right (left (left (left (left (right (left (right (left (left (right (right (right (right (bodyC cfg.P 82))))))))))))))) fr h6 _
            rcases iteB_some hm with ⟨hb, hm⟩ | ⟨hb, hm⟩
            · replace H := H.know 35 hb (by kernel_rfl)
              refine aw_true (x := .tmp 35) (by kernel_rfl) H (fun fr => by kernel_rfl) ?_
              refine aw_skip (by kernel_rfl) ?_
              show AW cfg 82 g (right (left (left (left (right (left (right (left (left (right (right (right (right (bodyC cfg.P 82)))))))))))))) fr h6 _
              refine aw_block (id := 5) (by kernel_rfl) ?_
              refine aw_seq (by kernel_rfl) ?_
              refine aw_reg (id := 10) (n := 8) [(0, []), (1, []), (2, []), (3, []), (4, []), (5, []), (6, []), (7, [])] (by kernel_rfl) (by kernel_rfl) ?_
              refine at_seg [(0, []), (1, []), (2, []), (3, []), (4, []), (5, []), (6, [])] [(0, rowV rp0 x7.length), (1, .int .i64 p1), (2, .func (.func 74) [] []), (6, .int .i64 x8), (8, .int .i64 x10), (36, rowV rp0 x7.length), (37, .int .i64 x9), (40, .int .i64 (IntKind.i64.wrap (x9 + x8))), (41, .int .i64 x10), (42, .func (.func 74) [] [])] H (noU_all rfl) (fun fr => by kernel_rfl) ?_
              intro fr H
              cases hm
            · replace H := H.know 35 hb (by kernel_rfl)
              refine aw_false (x := .tmp 35) (by kernel_rfl) H (fun fr => by kernel_rfl) ?_
              refine aw_exit (i := 4) (by kernel_rfl) ?_
              exact Exists.intro _ (And.intro (Option.some.inj hm).symm (fun e => Or.inl ⟨x9, rfl, e, H.less _ (fun fr => by kernel_rfl), A⟩))
          · clear ho
            clear A
            intro e fr h7 hQ
            rcases hQ with ⟨x11, rfl, rfl, H, A⟩ | hF
            · skip
              show AW cfg 82 g (right (right (left (right (left (left (right (right (right (right (bodyC cfg.P 82))))))))))) fr h7 _
              refine aw_seq (by kernel_rfl) ?_
              obtain ⟨o4, ho, hm⟩ := bind_some hm
              refine aw_mono (Q' := fun e fr' h' => (e = .normal ∧ () = o4 ∧ Has fr' 63 [(0, rowV rp0 x7.length), (1, .int .i64 p1), (2, .func (.func 74) [] []), (6, .int .i64 x8)] ∧ HH g h' [.lst rp0 63 (lst e_S_api_Member x7)] F) ∨ False) ?_ ?_
              · replace hm := ho
                clear ho
                refine aw_seq (by kernel_rfl) ?_
                refine aw_reg (id := 13) (n := 4) [(0, []), (1, []), (2, []), (3, [])] (by kernel_rfl) (by kernel_rfl) ?_
                refine at_seg [(0, []), (1, []), (2, []), (3, [])] [(0, rowV rp0 x7.length), (1, .int .i64 p1), (2, .func (.func 74) [] []), (6, .int .i64 x8), (7, .int .i64 x11), (9, .int .i64 (IntKind.i64.wrap (x11 + x8)))] H (noU_all rfl) (fun fr => by kernel_rfl) ?_
                intro fr H
                refine at_nil ?_
                show AW cfg 82 g (right (left (right (right (left (right (left (left (right (right (right (right (bodyC cfg.P 82))))))))))))) fr h7 _
                refine aw_seq (by kernel_rfl) ?_
                refine aw_reg (id := 14) (n := 3) [(0, []), (1, []), (2, [])] (by kernel_rfl) (by kernel_rfl) ?_
                refine at_seg [(0, []), (1, []), (2, [])] [(0, rowV rp0 x7.length), (1, .int .i64 p1), (2, .func (.func 74) [] []), (6, .int .i64 x8), (7, .int .i64 x11), (9, .int .i64 (IntKind.i64.wrap (x11 + x8))), (54, .bool (decide ((IntKind.i64.wrap (x11 + x8)) < p1)))] H (noU_all rfl) (fun fr => by kernel_rfl) ?_
                intro fr H
                refine at_nil ?_
                show AW cfg 82 g (right (right (left (right (right (left (right (left (left (right (right (right (right (bodyC cfg.P 82)))))))))))))) fr h7 _
                rcases iteB_some hm with ⟨hb, hm⟩ | ⟨hb, hm⟩
                · replace H := H.know 54 hb (by kernel_rfl)
                  refine aw_true (x := .tmp 54) (by kernel_rfl) H (fun fr => by kernel_rfl) ?_
                  refine aw_reg (id := 15) (n := 6) [(0, []), (1, []), (2, []), (3, []), (4, []), (5, [])] (by kernel_rfl) (by kernel_rfl) ?_
                  refine at_seg [(0, []), (1, []), (2, []), (3, []), (4, [])] [(0, rowV rp0 x7.length), (1, .int .i64 p1), (2, .func (.func 74) [] []), (6, .int .i64 x8), (55, rowV rp0 x7.length), (56, .int .i64 x11), (57, .int .i64 (IntKind.i64.wrap (x11 + x8))), (58, .int .i64 p1), (59, .func (.func 74) [] [])] H (noU_all rfl) (fun fr => by kernel_rfl) ?_
                  intro fr H
                  cases hm
                · replace H := H.know 54 hb (by kernel_rfl)
                  refine aw_false (x := .tmp 54) (by kernel_rfl) H (fun fr => by kernel_rfl) ?_
                  refine aw_skip (by kernel_rfl) ?_
                  exact Or.inl ⟨rfl, Option.some.inj hm, H.less _ (fun fr => by kernel_rfl), A⟩
              · clear ho
                clear A
                intro e fr h8 hQ
                rcases hQ with ⟨rfl, rfl, H, A⟩ | hF
                · skip
                  show AW cfg 82 g (right (right (right (left (right (left (left (right (right (right (right (bodyC cfg.P 82)))))))))))) fr h8 _
                  refine aw_reg (id := 16) (n := 3) [(0, []), (1, []), (2, [])] (by kernel_rfl) (by kernel_rfl) ?_
                  refine at_seg [(0, []), (1, []), (2, [])] [(0, rowV rp0 x7.length), (1, .int .i64 p1), (2, .func (.func 74) [] []), (6, .int .i64 (IntKind.i64.wrap (x8 * (2 : Int))))] H (noU_all rfl) (fun fr => by kernel_rfl) ?_
                  intro fr H
                  refine at_nil ?_
                  exact Exists.intro (IntKind.i64.wrap (x8 * (2 : Int))) (And.intro (Option.some.inj hm).symm ⟨IntKind.i64.wrap (x8 * (2 : Int)), rfl, H.less _ (fun fr => by kernel_rfl), A⟩)
                · exact hF.elim
            · exact hF.elim
        · replace H := H.know 30 hb (by kernel_rfl)
          refine aw_false (x := .tmp 30) (by kernel_rfl) H (fun fr => by kernel_rfl) ?_
          refine aw_exit (i := 2) (by kernel_rfl) ?_
          exact Exists.intro _ (And.intro (Option.some.inj hm).symm (fun e => Or.inl ⟨rfl, e, H.less _ (fun fr => by kernel_rfl), A⟩))
      · clear ho
        clear A
        intro e fr h9 hQ
        rcases hQ with ⟨rfl, rfl, H, A⟩ | hF
        · skip
          have e1 := Option.some.inj hm
          subst e1
          refine ⟨.inr rfl, .tuple [], resH H (fun fr => by kernel_rfl), ?_⟩
          exact ⟨hl6, rfl, A⟩
        · exact hF.elim
    · exact hF.elim
/-! ### slices.SortStableFunc[[]boulter/api.Member,boulter/api.Member] -/
noncomputable def M_slices_SortStableFunc_boulter_api_Member_boulter_api_Member_sOF_c496 (p0 : List S_api_Member) : Option ((List S_api_Member)) :=
 (M_slices_stableCmpFunc_boulter_api_Member_sOIF_04e2 p0 (p0.length : Int)).bind fun x1 => some x1
theorem ok_slices_SortStableFunc_boulter_api_Member_boulter_api_Member_sOF_c496 {g : Gd} {h : AHeap} {F : List Ck} {p0 : List S_api_Member} {rp0 : Option Nat} {u0 : List S_api_Member} {av : List AVal} (hm : M_slices_SortStableFunc_boulter_api_Member_boulter_api_Member_sOF_c496 p0 = some u0) (hc : canL (cfg.still 73) av = [rowV rp0 p0.length, .func (.func 74) [] []]) (A : HH g h [.lst rp0 63 (lst e_S_api_Member p0)] F) : ∃ v h', Runs cfg g h 73 av v h' ∧ ∃ (hl'0 : u0.length = p0.length), v = .tuple [] ∧ HH g h' [.lst rp0 63 (lst e_S_api_Member u0)] F := by
  refine runsQ1 (n := 9) (rs := []) (by kernel_rfl) hc (by kernel_rfl) ?_
  clear hc
  unfold M_slices_SortStableFunc_boulter_api_Member_boulter_api_Member_sOF_c496 at hm
  refine start (n := 9) [(0, rowV rp0 p0.length), (1, .func (.func 74) [] [])] (by kernel_rfl) (by kernel_rfl) ?_
  intro fr H
  refine aw_reg (id := 0) (n := 5) [(0, []), (1, []), (2, []), (3, []), (4, [])] (by kernel_rfl) (by kernel_rfl) ?_
  refine at_seg [(0, []), (1, []), (2, []), (3, [])] [(4, rowV rp0 p0.length), (6, .int .i64 (p0.length : Int)), (7, .func (.func 74) [] [])] H (noU_all rfl) (fun fr => by kernel_rfl) ?_
  intro fr H
  have A1 := A.cut 1
  obtain ⟨x1, hx, hm⟩ := bind_some hm
  obtain ⟨v1, h1, hr, hl1, rfl, A1⟩ := ok_slices_stableCmpFunc_boulter_api_Member_sOIF_04e2 (av := [rowV rp0 p0.length, .int .i64 (p0.length : Int), .func (.func 74) [] []]) hx (by kernel_rfl) A1
  have hl2 : x1.length = p0.length := hl1
  have el : rowV rp0 p0.length = rowV rp0 x1.length := congrArg _ hl1.symm
  try rw [el] at H
  try rw [el] at hr
  try rw [el] at A1
  replace A : HH g h1 [.lst rp0 63 (lst e_S_api_Member x1)] F := A.glue0 (n := 1) A1
  refine at_step (v := .tuple []) (h1 := h1) [] H (fun fr => by kernel_rfl) (fun fr => Steps.call (by kernel_rfl) hr) ?_
  intro fr t H
  refine at_nil ?_
  have e1 := Option.some.inj hm
  subst e1
  refine ⟨.inr rfl, .tuple [], resH H (fun fr => by kernel_rfl), ?_⟩
  exact ⟨hl2, rfl, A⟩
/-! ### boulter/delta.byName -/
noncomputable def M_delta_byName_sO (p0 : List S_api_Member) : Option ((List S_api_Member)) :=
 (M_slices_SortStableFunc_boulter_api_Member_boulter_api_Member_sOF_c496 p0).bind fun x1 => some x1
theorem ok_delta_byName_sO {g : Gd} {h : AHeap} {F : List Ck} {p0 : List S_api_Member} {rp0 : Option Nat} {u0 : List S_api_Member} {av : List AVal} (hm : M_delta_byName_sO p0 = some u0) (hc : canL (cfg.still 55) av = [rowV rp0 p0.length]) (A : HH g h [.lst rp0 63 (lst e_S_api_Member p0)] F) : ∃ v h', Runs cfg g h 55 av v h' ∧ ∃ (hl'0 : u0.length = p0.length), v = rowV rp0 u0.length ∧ HH g h' [.lst rp0 63 (lst e_S_api_Member u0)] F := by
  refine runsQ1 (n := 6) (rs := [.tmp 2]) (by kernel_rfl) hc (by kernel_rfl) ?_
  clear hc
  unfold M_delta_byName_sO at hm
  refine start (n := 6) [(0, rowV rp0 p0.length)] (by kernel_rfl) (by kernel_rfl) ?_
  intro fr H
  refine aw_seq (by kernel_rfl) ?_
  refine aw_reg (id := 0) (n := 1) [(0, [])] (by kernel_rfl) (by kernel_rfl) ?_
  refine at_seg [(0, [])] [(0, rowV rp0 p0.length)] H (noU_all rfl) (fun fr => by kernel_rfl) ?_
  intro fr H
  refine at_nil ?_
  show AW cfg 55 g (right (bodyC cfg.P 55)) fr h _
  refine aw_seq (by kernel_rfl) ?_
  refine aw_reg (id := 1) (n := 2) [(0, []), (1, [])] (by kernel_rfl) (by kernel_rfl) ?_
  refine at_seg [(0, [])] [(0, rowV rp0 p0.length), (3, rowV rp0 p0.length)] H (noU_all rfl) (fun fr => by kernel_rfl) ?_
  intro fr H
  have A1 := A.cut 1
  obtain ⟨x1, hx, hm⟩ := bind_some hm
  obtain ⟨v1, h1, hr, hl1, rfl, A1⟩ := ok_slices_SortStableFunc_boulter_api_Member_boulter_api_Member_sOF_c496 (av := [rowV rp0 p0.length, .func (.func 74) [] []]) hx (by kernel_rfl) A1
  have hl2 : x1.length = p0.length := hl1
  have el : rowV rp0 p0.length = rowV rp0 x1.length := congrArg _ hl1.symm
  try rw [el] at H
  try rw [el] at hr
  try rw [el] at A1
  replace A : HH g h1 [.lst rp0 63 (lst e_S_api_Member x1)] F := A.glue0 (n := 1) A1
  refine at_step (v := .tuple []) (h1 := h1) [(0, rowV rp0 x1.length)] H (fun fr => by kernel_rfl) (fun fr => Steps.call (by kernel_rfl) hr) ?_
  intro fr t H
  refine at_nil ?_
  show AW cfg 55 g (right (right (bodyC cfg.P 55))) fr h1 _
  refine aw_seq (by kernel_rfl) ?_
  refine aw_reg (id := 2) (n := 2) [(0, []), (1, [])] (by kernel_rfl) (by kernel_rfl) ?_
  refine at_seg [(0, []), (1, [])] [(2, rowV rp0 x1.length)] H (noU_all rfl) (fun fr => by kernel_rfl) ?_
  intro fr H
  refine at_nil ?_
  show AW cfg 55 g (right (right (right (bodyC cfg.P 55)))) fr h1 _
  refine aw_ret (by kernel_rfl) ?_
  have e1 := Option.some.inj hm
  subst e1
  refine ⟨.inl rfl, rowV rp0 x1.length, resH H (fun fr => by kernel_rfl), ?_⟩
  exact ⟨hl2, rfl, A⟩
/-! ### boulter/delta.Sorted -/
noncomputable def M_delta_Sorted (p0 : List S_api_Member) : Option ((List S_api_Member)) :=
 (M_delta_Last p0).bind fun x1 => (M_delta_byName_sO x1).bind fun x3 => some x3
theorem ok_delta_Sorted {g : Gd} {h : AHeap} {F : List Ck} {p0 : List S_api_Member} {q0 : List S_api_Member} {av : List AVal} (hm : M_delta_Sorted p0 = some q0) (hc : canL (cfg.still 30) av = [vs e_S_api_Member p0]) (A : HH g h [] F) : ∃ v h', Runs cfg g h 30 av v h' ∧ ∃ (rq0 : Option Nat), v = rowV rq0 q0.length ∧ HH g h' [.lst rq0 63 (lst e_S_api_Member q0)] F := by
  refine runsQ1 (n := 6) (rs := [.tmp 2]) (by kernel_rfl) hc (by kernel_rfl) ?_
  clear hc
  unfold M_delta_Sorted at hm
  refine start (n := 6) [(0, vs e_S_api_Member p0)] (by kernel_rfl) (by kernel_rfl) ?_
  intro fr H
  refine aw_seq (by kernel_rfl) ?_
  refine aw_reg (id := 0) (n := 1) [(0, [])] (by kernel_rfl) (by kernel_rfl) ?_
  refine at_seg [(0, [])] [(0, vs e_S_api_Member p0)] H (noU_all rfl) (fun fr => by kernel_rfl) ?_
  intro fr H
  refine at_nil ?_
  show AW cfg 30 g (right (bodyC cfg.P 30)) fr h _
  refine aw_seq (by kernel_rfl) ?_
  refine aw_reg (id := 1) (n := 4) [(0, []), (1, []), (2, []), (3, [])] (by kernel_rfl) (by kernel_rfl) ?_
  refine at_seg [(0, [])] [(3, vs e_S_api_Member p0)] H (noU_all rfl) (fun fr => by kernel_rfl) ?_
  intro fr H
  have A1 := A.cut 0
  obtain ⟨x1, hx, hm⟩ := bind_some hm
  obtain ⟨v1, h1, hr, rqw1, rfl, A1⟩ := ok_delta_Last (av := [vs e_S_api_Member p0]) hx (by kernel_rfl) A1
  replace A : HH g h1 [.lst rqw1 63 (lst e_S_api_Member x1)] F := A.glue0 (n := 0) A1
  refine at_step (v := rowV rqw1 x1.length) (h1 := h1) [(4, rowV rqw1 x1.length)] H (fun fr => by kernel_rfl) (fun fr => Steps.call (by kernel_rfl) hr) ?_
  intro fr t H
  have A1 := A.cut 1
  obtain ⟨x3, hx, hm⟩ := bind_some hm
  obtain ⟨v1, h2, hr, hl1, rfl, A1⟩ := ok_delta_byName_sO (av := [rowV rqw1 x1.length]) hx (by kernel_rfl) A1
  have hl2 : x3.length = x1.length := hl1
  have el : rowV rqw1 x1.length = rowV rqw1 x3.length := congrArg _ hl1.symm
  try rw [el] at H
  try rw [el] at hr
  try rw [el] at A1
  replace A : HH g h2 [.lst rqw1 63 (lst e_S_api_Member x3)] F := A.glue0 (n := 1) A1
  refine at_step (v := rowV rqw1 x3.length) (h1 := h2) [(5, rowV rqw1 x3.length)] H (fun fr => by kernel_rfl) (fun fr => Steps.call (by kernel_rfl) hr) ?_
  intro fr t H
  refine at_seg [(3, [])] [(2, rowV rqw1 x3.length)] H (noU_all rfl) (fun fr => by kernel_rfl) ?_
  intro fr H
  refine at_nil ?_
  show AW cfg 30 g (right (right (bodyC cfg.P 30))) fr h2 _
  refine aw_ret (by kernel_rfl) ?_
  have e1 := Option.some.inj hm
  subst e1
  refine ⟨.inl rfl, rowV rqw1 x3.length, resH H (fun fr => by kernel_rfl), ?_⟩
  exact ⟨rqw1, rfl, A⟩
/-! ### boulter/boulterref12.Same -/
noncomputable def M_boulterref12_Same_sOO_L0 (p0 : List S_api_Member) (p1 : List S_api_Member) (s : Int) : Option ((Int) ⊕ ((Unit) ⊕ (Bool))) :=
  match s with
  | x1 => iteB (decide (x1 < (p0.length : Int))) ((ixV p0 x1).bind fun x3 => (ixV p1 x1).bind fun x4 => (M_boulterref07_Same x3 x4).bind fun x5 => iteB (!x5) (some (.inr (.inr false))) (some (.inl (IntKind.i64.wrap (x1 + (1 : Int)))))) (some (.inr (.inl ())))
noncomputable def M_boulterref12_Same_sOO (p0 : List S_api_Member) (p1 : List S_api_Member) : Option (Bool) :=
 iteB ((p0.length : Int) != (p1.length : Int)) (some false) ((loop (M_boulterref12_Same_sOO_L0 p0 p1) (0 : Int)).bind fun o1 => (match o1 with | .inl _ => some true | .inr x2 => some x2))
theorem ok_boulterref12_Same_sOO {g : Gd} {h : AHeap} {F : List Ck} {p0 : List S_api_Member} {p1 : List S_api_Member} {rp0 : Option Nat} {rp1 : Option Nat} {q0 : Bool} {av : List AVal} (hm : M_boulterref12_Same_sOO p0 p1 = some q0) (hc : canL (cfg.still 21) av = [rowV rp0 p0.length, rowV rp1 p1.length]) (A : HH g h [.lst rp0 63 (lst e_S_api_Member p0), .lst rp1 63 (lst e_S_api_Member p1)] F) : ∃ v h', Runs cfg g h 21 av v h' ∧ v = .bool q0 ∧ HH g h' [.lst rp0 63 (lst e_S_api_Member p0), .lst rp1 63 (lst e_S_api_Member p1)] F := by
  refine runsQ1 (n := 27) (rs := [.tmp 4]) (by kernel_rfl) hc (by kernel_rfl) ?_
  clear hc
  unfold M_boulterref12_Same_sOO at hm
  refine start (n := 27) [(0, rowV rp0 p0.length), (1, rowV rp1 p1.length)] (by kernel_rfl) (by kernel_rfl) ?_
  intro fr H
  refine aw_seq (by kernel_rfl) ?_
  refine aw_reg (id := 0) (n := 1) [(0, [])] (by kernel_rfl) (by kernel_rfl) ?_
  refine at_seg [(0, [])] [(0, rowV rp0 p0.length), (1, rowV rp1 p1.length)] H (noU_all rfl) (fun fr => by kernel_rfl) ?_
  intro fr H
  refine at_nil ?_
  show AW cfg 21 g (right (bodyC cfg.P 21)) fr h _
  refine aw_seq (by kernel_rfl) ?_
  refine aw_seq (by kernel_rfl) ?_
  refine aw_reg (id := 1) (n := 5) [(0, []), (1, []), (2, []), (3, []), (4, [])] (by kernel_rfl) (by kernel_rfl) ?_
  refine at_seg [(0, []), (1, []), (2, []), (3, []), (4, [])] [(0, rowV rp0 p0.length), (1, rowV rp1 p1.length), (10, .bool ((p0.length : Int) != (p1.length : Int)))] H (noU_all rfl) (fun fr => by kernel_rfl) ?_
  intro fr H
  refine at_nil ?_
  show AW cfg 21 g (right (left (right (bodyC cfg.P 21)))) fr h _
  rcases iteB_some hm with ⟨hb, hm⟩ | ⟨hb, hm⟩
  · replace H := H.know 10 hb (by kernel_rfl)
    refine aw_true (x := .tmp 10) (by kernel_rfl) H (fun fr => by kernel_rfl) ?_
    refine aw_seq (by kernel_rfl) ?_
    refine aw_reg (id := 2) (n := 1) [(0, [])] (by kernel_rfl) (by kernel_rfl) ?_
    refine at_seg [(0, [])] [(4, .bool false)] H (noU_all rfl) (fun fr => by kernel_rfl) ?_
    intro fr H
    refine at_nil ?_
    show AW cfg 21 g (right (left (right (left (right (bodyC cfg.P 21)))))) fr h _
    refine aw_ret (by kernel_rfl) ?_
    have e1 := Option.some.inj hm
    subst e1
    refine ⟨.inl rfl, .bool false, resH H (fun fr => by kernel_rfl), ?_⟩
    exact ⟨rfl, A⟩
  · replace H := H.know 10 hb (by kernel_rfl)
    refine aw_false (x := .tmp 10) (by kernel_rfl) H (fun fr => by kernel_rfl) ?_
    refine aw_skip (by kernel_rfl) ?_
    show AW cfg 21 g (right (right (bodyC cfg.P 21))) fr h _
    refine aw_seq (by kernel_rfl) ?_
    refine aw_seq (by kernel_rfl) ?_
    refine aw_reg (id := 3) (n := 1) [(0, [])] (by kernel_rfl) (by kernel_rfl) ?_
    refine at_seg [(0, [])] [(0, rowV rp0 p0.length), (1, rowV rp1 p1.length), (5, .int .i64 (0 : Int))] H (noU_all rfl) (fun fr => by kernel_rfl) ?_
    intro fr H
    refine at_nil ?_
    show AW cfg 21 g (right (left (right (right (bodyC cfg.P 21))))) fr h _
    refine aw_block (id := 0) (by kernel_rfl) ?_
    obtain ⟨o1, ho, hm⟩ := bind_some hm
    refine aw_mono (Q' := fun e fr' h' => (e = .exit 0 ∧ .inl () = o1 ∧ Has fr' 27 [] ∧ HH g h' [.lst rp0 63 (lst e_S_api_Member p0), .lst rp1 63 (lst e_S_api_Member p1)] F) ∨ (∃ (x2 : Bool), e = .ret ∧ .inr x2 = o1 ∧ Has fr' 27 [(4, .bool x2)] ∧ HH g h' [.lst rp0 63 (lst e_S_api_Member p0), .lst rp1 63 (lst e_S_api_Member p1)] F) ∨ False) ?_ ?_
    · refine aw_loop (by kernel_rfl) (fun (s : Int) fr' h' => ∃ (x1 : Int), x1 = s ∧ Has fr' 27 [(0, rowV rp0 p0.length), (1, rowV rp1 p1.length), (5, .int .i64 x1)] ∧ HH g h' [.lst rp0 63 (lst e_S_api_Member p0), .lst rp1 63 (lst e_S_api_Member p1)] F) ho ⟨(0 : Int), rfl, H.less _ (fun fr => by kernel_rfl), A⟩ ?_
      clear ho hm H A
      intro s q fr h1 hI hm
      obtain ⟨x1, rfl, H, A⟩ := hI
      unfold M_boulterref12_Same_sOO_L0 at hm
      refine aw_seq (by kernel_rfl) ?_
      refine aw_seq (by kernel_rfl) ?_
      refine aw_reg (id := 4) (n := 4) [(0, []), (1, []), (2, []), (3, [])] (by kernel_rfl) (by kernel_rfl) ?_
      refine at_seg [(0, []), (1, []), (2, []), (3, [])] [(0, rowV rp0 p0.length), (1, rowV rp1 p1.length), (5, .int .i64 x1), (14, .bool (decide (x1 < (p0.length : Int))))] H (noU_all rfl) (fun fr => by kernel_rfl) ?_
      intro fr H
      refine at_nil ?_
      show AW cfg 21 g (right (left (left (left (right (left (right (right (bodyC cfg.P 21))))))))) fr h1 _
      rcases iteB_some hm with ⟨hb, hm⟩ | ⟨hb, hm⟩
      · replace H := H.know 14 hb (by kernel_rfl)
        refine aw_true (x := .tmp 14) (by kernel_rfl) H (fun fr => by kernel_rfl) ?_
        refine aw_skip (by kernel_rfl) ?_
        show AW cfg 21 g (right (left (left (right (left (right (right (bodyC cfg.P 21)))))))) fr h1 _
        refine aw_seq (by kernel_rfl) ?_
        refine aw_block (id := 1) (by kernel_rfl) ?_
        refine aw_seq (by kernel_rfl) ?_
        refine aw_draw (id := 6) (n := 10) (by kernel_rfl) [(0, []), (1, []), (2, []), (3, []), (4, []), (5, []), (6, []), (7, []), (8, []), (9, [])] (by kernel_rfl) ?_
        refine at_seg [(0, []), (1, [])] [(0, rowV rp0 p0.length), (1, rowV rp1 p1.length), (5, .int .i64 x1), (17, rowV rp0 p0.length), (18, .int .i64 x1)] H (noU_all rfl) (fun fr => by kernel_rfl) ?_
        intro fr H
        obtain ⟨x3, hx, hm⟩ := bind_some hm
        obtain ⟨i1, er1, _, hx, hq1⟩ := HH.ixO enc_S_api_Member (by decide) A 0 (xs := p0) rfl hx
        refine at_step (v := .ptr (some (i1, x1.toNat * 14))) (h1 := h1) [(0, rowV rp0 p0.length), (1, rowV rp1 p1.length), (5, .int .i64 x1), (19, .ptr (some (i1, x1.toNat * 14)))] H (fun fr => by kernel_rfl) (fun fr => .of (s_ixL (s := rowS rp0 p0.length) (by kernel_rfl) hx)) ?_
        intro fr t H
        refine at_step (v := .agg (e_S_api_Member x3)) (h1 := h1) [(0, rowV rp0 p0.length), (1, rowV rp1 p1.length), (5, .int .i64 x1), (20, .agg (e_S_api_Member x3))] H (fun fr => by kernel_rfl) (fun fr => .of (s_ldA (by kernel_rfl) (row_ldA enc_S_api_Member (HH.row A 0 rfl er1) hq1 0 14 (Nat.le_of_ble_eq_true rfl)))) ?_
        intro fr t H
        refine at_seg [(4, []), (5, [])] [(0, rowV rp0 p0.length), (1, rowV rp1 p1.length), (5, .int .i64 x1), (20, .agg (e_S_api_Member x3)), (21, rowV rp1 p1.length), (22, .int .i64 x1)] H (noU_all rfl) (fun fr => by kernel_rfl) ?_
        intro fr H
        obtain ⟨x4, hx, hm⟩ := bind_some hm
        obtain ⟨i2, er2, _, hx, hq2⟩ := HH.ixO enc_S_api_Member (by decide) A 1 (xs := p1) rfl hx
        refine at_step (v := .ptr (some (i2, x1.toNat * 14))) (h1 := h1) [(0, rowV rp0 p0.length), (1, rowV rp1 p1.length), (5, .int .i64 x1), (20, .agg (e_S_api_Member x3)), (23, .ptr (some (i2, x1.toNat * 14)))] H (fun fr => by kernel_rfl) (fun fr => .of (s_ixL (s := rowS rp1 p1.length) (by kernel_rfl) hx)) ?_
        intro fr t H
        refine at_step (v := .agg (e_S_api_Member x4)) (h1 := h1) [(0, rowV rp0 p0.length), (1, rowV rp1 p1.length), (5, .int .i64 x1), (20, .agg (e_S_api_Member x3)), (24, .agg (e_S_api_Member x4))] H (fun fr => by kernel_rfl) (fun fr => .of (s_ldA (by kernel_rfl) (row_ldA enc_S_api_Member (HH.row A 1 rfl er2) hq2 0 14 (Nat.le_of_ble_eq_true rfl)))) ?_
        intro fr t H
        have A1 := A.cut 0
        obtain ⟨x5, hx, hm⟩ := bind_some hm
        obtain ⟨v1, h2, hr, rfl, A1⟩ := ok_boulterref07_Same (av := [.agg (e_S_api_Member x3), .agg (e_S_api_Member x4)]) hx (by kernel_rfl) A1
        replace A : HH g h2 [.lst rp0 63 (lst e_S_api_Member p0), .lst rp1 63 (lst e_S_api_Member p1)] F := A.glue0 (n := 0) A1
        refine at_step (v := .bool x5) (h1 := h2) [(0, rowV rp0 p0.length), (1, rowV rp1 p1.length), (5, .int .i64 x1), (25, .bool x5)] H (fun fr => by kernel_rfl) (fun fr => Steps.call (by kernel_rfl) hr) ?_
        intro fr t H
        refine at_seg [(9, [])] [(0, rowV rp0 p0.length), (1, rowV rp1 p1.length), (5, .int .i64 x1), (26, .bool (!x5))] H (noU_all rfl) (fun fr => by kernel_rfl) ?_
        intro fr H
        refine at_nil ?_
        show AW cfg 21 g (right (left (left (right (left (left (right (left (right (right (bodyC cfg.P 21))))))))))) fr h2 _
        rcases iteB_some hm with ⟨hb, hm⟩ | ⟨hb, hm⟩
        · replace H := H.know 26 hb (by kernel_rfl)
          refine aw_true (x := .tmp 26) (by kernel_rfl) H (fun fr => by kernel_rfl) ?_
          refine aw_seq (by kernel_rfl) ?_
          refine aw_reg (id := 7) (n := 1) [(0, [])] (by kernel_rfl) (by kernel_rfl) ?_
          refine at_seg [(0, [])] [(4, .bool false)] H (noU_all rfl) (fun fr => by kernel_rfl) ?_
          intro fr H
          refine at_nil ?_
          show AW cfg 21 g (right (left (right (left (left (right (left (left (right (left (right (right (bodyC cfg.P 21))))))))))))) fr h2 _
          refine aw_ret (by kernel_rfl) ?_
          exact Exists.intro _ (And.intro (Option.some.inj hm).symm (fun e => Or.inr (Or.inl ⟨false, rfl, e, H.less _ (fun fr => by kernel_rfl), A⟩)))
        · replace H := H.know 26 hb (by kernel_rfl)
          refine aw_false (x := .tmp 26) (by kernel_rfl) H (fun fr => by kernel_rfl) ?_
          refine aw_skip (by kernel_rfl) ?_
          show AW cfg 21 g (right (right (left (left (right (left (right (right (bodyC cfg.P 21))))))))) fr h2 _
          refine aw_reg (id := 5) (n := 3) [(0, []), (1, []), (2, [])] (by kernel_rfl) (by kernel_rfl) ?_
          refine at_seg [(0, []), (1, []), (2, [])] [(0, rowV rp0 p0.length), (1, rowV rp1 p1.length), (5, .int .i64 (IntKind.i64.wrap (x1 + (1 : Int))))] H (noU_all rfl) (fun fr => by kernel_rfl) ?_
          intro fr H
          refine at_nil ?_
          exact Exists.intro (IntKind.i64.wrap (x1 + (1 : Int))) (And.intro (Option.some.inj hm).symm ⟨IntKind.i64.wrap (x1 + (1 : Int)), rfl, H.less _ (fun fr => by kernel_rfl), A⟩)
      · replace H := H.know 14 hb (by kernel_rfl)
        refine aw_false (x := .tmp 14) (by kernel_rfl) H (fun fr => by kernel_rfl) ?_
        refine aw_exit (i := 0) (by kernel_rfl) ?_
        exact Exists.intro _ (And.intro (Option.some.inj hm).symm (fun e => Or.inl ⟨rfl, e, H.less _ (fun fr => by kernel_rfl), A⟩))
    · clear ho
      clear A
      intro e fr h3 hQ
      rcases hQ with ⟨rfl, rfl, H, A⟩ | ⟨x2, rfl, rfl, H, A⟩ | hF
      · skip
        show AW cfg 21 g (right (right (right (bodyC cfg.P 21)))) fr h3 _
        refine aw_seq (by kernel_rfl) ?_
        refine aw_reg (id := 8) (n := 1) [(0, [])] (by kernel_rfl) (by kernel_rfl) ?_
        refine at_seg [(0, [])] [(4, .bool true)] H (noU_all rfl) (fun fr => by kernel_rfl) ?_
        intro fr H
        refine at_nil ?_
        show AW cfg 21 g (right (right (right (right (bodyC cfg.P 21))))) fr h3 _
        refine aw_ret (by kernel_rfl) ?_
        have e1 := Option.some.inj hm
        subst e1
        refine ⟨.inl rfl, .bool true, resH H (fun fr => by kernel_rfl), ?_⟩
        exact ⟨rfl, A⟩
      · skip
        have e1 := Option.some.inj hm
        subst e1
        refine ⟨.inl rfl, .bool x2, resH H (fun fr => by kernel_rfl), ?_⟩
        exact ⟨rfl, A⟩
      · exact hF.elim
/-! ### boulter/boulterlaw38.DeltaTells -/
noncomputable def M_boulterlaw38_DeltaTells (p0 : List S_api_Member) (p1 : List S_api_Member) : Option (Bool) :=
 (M_boulterlaw38_long p0).bind fun x1 => (iteB x1 (some true) ((M_boulterlaw38_long p1).bind fun x3 => some x3) : Option (Bool)).bind fun x2 => iteB x2 ((M_boulterlaw38_awake).bind fun x4 => some x4) ((M_delta_Of p0 p1).bind fun x5 => (M_delta_Of p1 p0).bind fun x6 => (M_delta_Diff_Turn x5).bind fun x7 => (M_boulterref38_Of p0 p1).bind fun x8 => (M_boulterlaw38_same x5 x8).bind fun x9 => (iteB x9 ((M_boulterlaw38_same x6 (⟨x7.Added, x7.Removed, x7.Changed⟩ : S_boulterref38_Diff)).bind fun x11 => some x11) (some false) : Option (Bool)).bind fun x10 => (iteB x10 ((M_delta_Diff_Empty x5).bind fun x13 => (M_delta_Sorted p0).bind fun x14 => (M_delta_Sorted p1).bind fun x15 => (M_boulterref12_Same_sOO x14 x15).bind fun x16 => some (x13 == x16)) (some false) : Option (Bool)).bind fun x12 => (iteB x12 ((M_boulterlaw38_awake).bind fun x18 => some x18) (some false) : Option (Bool)).bind fun x17 => some x17)
theorem ok_boulterlaw38_DeltaTells {g : Gd} {h : AHeap} {F : List Ck} {p0 : List S_api_Member} {p1 : List S_api_Member} {q0 : Bool} {av : List AVal} (hm : M_boulterlaw38_DeltaTells p0 p1 = some q0) (hc : canL (cfg.still 6) av = [vs e_S_api_Member p0, vs e_S_api_Member p1]) (A : HH g h [] F) : ∃ v h', Runs cfg g h 6 av v h' ∧ v = .bool q0 ∧ HH g h' [] F := by
  refine runsQ1 (n := 52) (rs := [.tmp 4]) (by kernel_rfl) hc (by kernel_rfl) ?_
  clear hc
  unfold M_boulterlaw38_DeltaTells at hm
  refine start (n := 52) [(0, vs e_S_api_Member p0), (1, vs e_S_api_Member p1)] (by kernel_rfl) (by kernel_rfl) ?_
  intro fr H
  refine aw_seq (by kernel_rfl) ?_
  refine aw_reg (id := 0) (n := 1) [(0, [])] (by kernel_rfl) (by kernel_rfl) ?_
  refine at_seg [(0, [])] [(0, vs e_S_api_Member p0), (1, vs e_S_api_Member p1)] H (noU_all rfl) (fun fr => by kernel_rfl) ?_
  intro fr H
  refine at_nil ?_
  show AW cfg 6 g (right (bodyC cfg.P 6)) fr h _
  refine aw_seq (by kernel_rfl) ?_
  refine aw_seq (by kernel_rfl) ?_
  refine aw_reg (id := 1) (n := 6) [(0, []), (1, []), (2, []), (3, []), (4, []), (5, [])] (by kernel_rfl) (by kernel_rfl) ?_
  refine at_seg [(0, [])] [(0, vs e_S_api_Member p0), (1, vs e_S_api_Member p1), (8, vs e_S_api_Member p0)] H (noU_all rfl) (fun fr => by kernel_rfl) ?_
  intro fr H
  have A1 := A.cut 0
  obtain ⟨x1, hx, hm⟩ := bind_some hm
  obtain ⟨v1, h1, hr, rfl, A1⟩ := ok_boulterlaw38_long (av := [vs e_S_api_Member p0]) hx (by kernel_rfl) A1
  replace A : HH g h1 [] F := A.glue0 (n := 0) A1
  refine at_step (v := .bool x1) (h1 := h1) [(0, vs e_S_api_Member p0), (1, vs e_S_api_Member p1), (9, .bool x1)] H (fun fr => by kernel_rfl) (fun fr => Steps.call (by kernel_rfl) hr) ?_
  intro fr t H
  refine at_seg [(2, [])] [(0, vs e_S_api_Member p0), (1, vs e_S_api_Member p1), (10, .bool x1)] H (noU_all rfl) (fun fr => by kernel_rfl) ?_
  intro fr H
  obtain ⟨x2, ho, hm⟩ := bind_some hm
  refine at_cut [(3, []), (4, []), (5, [])] (fun fr' h' => Has fr' 52 [(0, vs e_S_api_Member p0), (1, vs e_S_api_Member p1), (13, .bool x2)] ∧ HH g h' [] F) ?_ ?_
  · rcases iteB_some ho with ⟨hb, hm⟩ | ⟨hb, hm⟩
    · replace H := H.know 10 hb (by kernel_rfl)
      refine at_seg [(3, []), (4, []), (5, [])] [(0, vs e_S_api_Member p0), (1, vs e_S_api_Member p1), (13, .bool true)] H (noU_all rfl) (fun fr => by kernel_rfl) ?_
      intro fr H
      have e1 := Option.some.inj hm
      subst e1
      exact at_nil ⟨H.less _ (fun fr => by kernel_rfl), A⟩
    · replace H := H.know 10 hb (by kernel_rfl)
      refine at_seg [(3, [])] [(0, vs e_S_api_Member p0), (1, vs e_S_api_Member p1), (10, .bool false), (11, vs e_S_api_Member p1)] H (noU_all rfl) (fun fr => by kernel_rfl) ?_
      intro fr H
      have A1 := A.cut 0
      obtain ⟨x3, hx, hm⟩ := bind_some hm
      obtain ⟨v1, h3, hr, rfl, A1⟩ := ok_boulterlaw38_long (av := [vs e_S_api_Member p1]) hx (by kernel_rfl) A1
      replace A : HH g h3 [] F := A.glue0 (n := 0) A1
      refine at_step (v := .bool x3) (h1 := h3) [(0, vs e_S_api_Member p0), (1, vs e_S_api_Member p1), (10, .bool false), (12, .bool x3)] H (fun fr => by kernel_rfl) (fun fr => Steps.call (by kernel_rfl) hr) ?_
      intro fr t H
      refine at_seg [(5, [])] [(0, vs e_S_api_Member p0), (1, vs e_S_api_Member p1), (13, .bool x3)] H (noU_all rfl) (fun fr => by kernel_rfl) ?_
      intro fr H
      have e1 := Option.some.inj hm
      subst e1
      exact at_nil ⟨H.less _ (fun fr => by kernel_rfl), A⟩
  · clear A
    intro t fr h2 hK
    obtain ⟨H, A⟩ := hK
    refine at_nil ?_
    show AW cfg 6 g (right (left (right (bodyC cfg.P 6)))) fr h2 _
    rcases iteB_some hm with ⟨hb, hm⟩ | ⟨hb, hm⟩
    · replace H := H.know 13 hb (by kernel_rfl)
      refine aw_true (x := .tmp 13) (by kernel_rfl) H (fun fr => by kernel_rfl) ?_
      refine aw_seq (by kernel_rfl) ?_
      refine aw_reg (id := 2) (n := 2) [(0, []), (1, [])] (by kernel_rfl) (by kernel_rfl) ?_
      obtain ⟨x4, hx, hm⟩ := bind_some hm
      refine at_step (v := .bool x4) (h1 := h2) [(14, .bool x4)] H (fun fr => by kernel_rfl) (fun fr => Steps.call (by kernel_rfl) (ok_boulterlaw38_awake hx)) ?_
      intro fr t H
      refine at_seg [(1, [])] [(4, .bool x4)] H (noU_all rfl) (fun fr => by kernel_rfl) ?_
      intro fr H
      refine at_nil ?_
      show AW cfg 6 g (right (left (right (left (right (bodyC cfg.P 6)))))) fr h2 _
      refine aw_ret (by kernel_rfl) ?_
      have e1 := Option.some.inj hm
      subst e1
      refine ⟨.inl rfl, .bool x4, resH H (fun fr => by kernel_rfl), ?_⟩
      exact ⟨rfl, A⟩
    · replace H := H.know 13 hb (by kernel_rfl)
      refine aw_false (x := .tmp 13) (by kernel_rfl) H (fun fr => by kernel_rfl) ?_
      refine aw_skip (by kernel_rfl) ?_
      show AW cfg 6 g (right (right (bodyC cfg.P 6))) fr h2 _
      refine aw_seq (by kernel_rfl) ?_
      refine aw_reg (id := 3) (n := 10) [(0, []), (1, []), (2, []), (3, []), (4, []), (5, []), (6, []), (7, []), (8, []), (9, [])] (by kernel_rfl) (by kernel_rfl) ?_
      refine at_seg [(0, []), (1, [])] [(0, vs e_S_api_Member p0), (1, vs e_S_api_Member p1), (15, vs e_S_api_Member p0), (16, vs e_S_api_Member p1)] H (noU_all rfl) (fun fr => by kernel_rfl) ?_
      intro fr H
      have A1 := A.cut 0
      obtain ⟨x5, hx, hm⟩ := bind_some hm
      obtain ⟨v1, h4, hr, rfl, A1⟩ := ok_delta_Of (av := [vs e_S_api_Member p0, vs e_S_api_Member p1]) hx (by kernel_rfl) A1
      replace A : HH g h4 [] F := A.glue0 (n := 0) A1
      refine at_step (v := .agg [vs eS x5.Added, vs eS x5.Removed, vs eS x5.Changed]) (h1 := h4) [(0, vs e_S_api_Member p0), (1, vs e_S_api_Member p1), (17, .agg [vs eS x5.Added, vs eS x5.Removed, vs eS x5.Changed])] H (fun fr => by kernel_rfl) (fun fr => Steps.call (by kernel_rfl) hr) ?_
      intro fr t H
      refine at_seg [(3, []), (4, [])] [(0, vs e_S_api_Member p0), (1, vs e_S_api_Member p1), (17, .agg [vs eS x5.Added, vs eS x5.Removed, vs eS x5.Changed]), (18, vs e_S_api_Member p1), (19, vs e_S_api_Member p0)] H (noU_all rfl) (fun fr => by kernel_rfl) ?_
      intro fr H
      have A1 := A.cut 0
      obtain ⟨x6, hx, hm⟩ := bind_some hm
      obtain ⟨v1, h5, hr, rfl, A1⟩ := ok_delta_Of (av := [vs e_S_api_Member p1, vs e_S_api_Member p0]) hx (by kernel_rfl) A1
      replace A : HH g h5 [] F := A.glue0 (n := 0) A1
      refine at_step (v := .agg [vs eS x6.Added, vs eS x6.Removed, vs eS x6.Changed]) (h1 := h5) [(0, vs e_S_api_Member p0), (1, vs e_S_api_Member p1), (17, .agg [vs eS x5.Added, vs eS x5.Removed, vs eS x5.Changed]), (20, .agg [vs eS x6.Added, vs eS x6.Removed, vs eS x6.Changed])] H (fun fr => by kernel_rfl) (fun fr => Steps.call (by kernel_rfl) hr) ?_
      intro fr t H
      obtain ⟨h6, e1⟩ : ∃ x, x = h5.push (.cells none 2 [.slice none 0, .slice none 0, .slice none 0]) := ⟨_, rfl⟩
      replace A := (A.push _).to e1
      refine at_step (v := .ptr (some (h5.size, 0))) (h1 := h6) [(0, vs e_S_api_Member p0), (1, vs e_S_api_Member p1), (5, .ptr (some (h5.size, 0))), (17, .agg [vs eS x5.Added, vs eS x5.Removed, vs eS x5.Changed]), (20, .agg [vs eS x6.Added, vs eS x6.Removed, vs eS x6.Changed])] H (fun fr => by kernel_rfl) (fun fr => .of (s_n' (by kernel_rfl) (congrArg some e1.symm))) ?_
      intro fr t H
      obtain ⟨h7, e2⟩ : ∃ x, x = h6.push (.cells none 2 [.slice none 0, .slice none 0, .slice none 0]) := ⟨_, rfl⟩
      replace A := (A.push _).to e2
      refine at_step (v := .ptr (some (h6.size, 0))) (h1 := h7) [(0, vs e_S_api_Member p0), (1, vs e_S_api_Member p1), (5, .ptr (some (h5.size, 0))), (6, .ptr (some (h6.size, 0))), (17, .agg [vs eS x5.Added, vs eS x5.Removed, vs eS x5.Changed]), (20, .agg [vs eS x6.Added, vs eS x6.Removed, vs eS x6.Changed])] H (fun fr => by kernel_rfl) (fun fr => .of (s_n' (by kernel_rfl) (congrArg some e2.symm))) ?_
      intro fr t H
      obtain ⟨h8, hx, A1⟩ := A.st 1 rfl (o := 0) (new := [vs eS x5.Added, vs eS x5.Removed, vs eS x5.Changed]) (ds := [vs eS x5.Added, vs eS x5.Removed, vs eS x5.Changed]) (Nat.le_of_ble_eq_true rfl) rfl rfl
      replace A : HH g h8 [.obj h6.size (.cells none 2 [.slice none 0, .slice none 0, .slice none 0]), .obj h5.size (.cells none 2 [vs eS x5.Added, vs eS x5.Removed, vs eS x5.Changed])] F := A1
      refine at_step (v := .tuple []) (h1 := h8) [(0, vs e_S_api_Member p0), (1, vs e_S_api_Member p1), (5, .ptr (some (h5.size, 0))), (6, .ptr (some (h6.size, 0))), (20, .agg [vs eS x6.Added, vs eS x6.Removed, vs eS x6.Changed])] H (fun fr => by kernel_rfl) (fun fr => .of (s_stG (by kernel_rfl) (stG_st hx rfl))) ?_
      intro fr t H
      obtain ⟨h9, hx, A1⟩ := A.st 0 rfl (o := 0) (new := [vs eS x6.Added, vs eS x6.Removed, vs eS x6.Changed]) (ds := [vs eS x6.Added, vs eS x6.Removed, vs eS x6.Changed]) (Nat.le_of_ble_eq_true rfl) rfl rfl
      replace A : HH g h9 [.obj h6.size (.cells none 2 [vs eS x6.Added, vs eS x6.Removed, vs eS x6.Changed]), .obj h5.size (.cells none 2 [vs eS x5.Added, vs eS x5.Removed, vs eS x5.Changed])] F := A1
      refine at_step (v := .tuple []) (h1 := h9) [(0, vs e_S_api_Member p0), (1, vs e_S_api_Member p1), (5, .ptr (some (h5.size, 0))), (6, .ptr (some (h6.size, 0)))] H (fun fr => by kernel_rfl) (fun fr => .of (s_stG (by kernel_rfl) (stG_st hx rfl))) ?_
      intro fr t H
      refine at_nil ?_
      show AW cfg 6 g (right (right (right (bodyC cfg.P 6)))) fr h9 _
      refine aw_seq (by kernel_rfl) ?_
      refine aw_reg (id := 4) (n := 4) [(0, []), (1, []), (2, []), (3, [])] (by kernel_rfl) (by kernel_rfl) ?_
      refine at_step (v := .agg [vs eS x5.Added, vs eS x5.Removed, vs eS x5.Changed]) (h1 := h9) [(0, vs e_S_api_Member p0), (1, vs e_S_api_Member p1), (5, .ptr (some (h5.size, 0))), (6, .ptr (some (h6.size, 0))), (21, .agg [vs eS x5.Added, vs eS x5.Removed, vs eS x5.Changed])] H (fun fr => by kernel_rfl) (fun fr => .of (s_ldA (by kernel_rfl) (A.ldA 1 rfl (o := 0) (n := 3) ⟨Nat.le_of_ble_eq_true rfl, rfl⟩))) ?_
      intro fr t H
      have A1 := A.cut 0
      obtain ⟨x7, hx, hm⟩ := bind_some hm
      obtain ⟨v1, h10, hr, rfl, A1⟩ := ok_delta_Diff_Turn (av := [.agg [vs eS x5.Added, vs eS x5.Removed, vs eS x5.Changed]]) hx (by kernel_rfl) A1
      replace A : HH g h10 [.obj h6.size (.cells none 2 [vs eS x6.Added, vs eS x6.Removed, vs eS x6.Changed]), .obj h5.size (.cells none 2 [vs eS x5.Added, vs eS x5.Removed, vs eS x5.Changed])] F := A.glue0 (n := 0) A1
      refine at_step (v := .agg [vs eS x7.Added, vs eS x7.Removed, vs eS x7.Changed]) (h1 := h10) [(0, vs e_S_api_Member p0), (1, vs e_S_api_Member p1), (5, .ptr (some (h5.size, 0))), (6, .ptr (some (h6.size, 0))), (22, .agg [vs eS x7.Added, vs eS x7.Removed, vs eS x7.Changed])] H (fun fr => by kernel_rfl) (fun fr => Steps.call (by kernel_rfl) hr) ?_
      intro fr t H
      obtain ⟨h11, e3⟩ : ∃ x, x = h10.push (.cells none 2 [.slice none 0, .slice none 0, .slice none 0]) := ⟨_, rfl⟩
      replace A := (A.push _).to e3
      refine at_step (v := .ptr (some (h10.size, 0))) (h1 := h11) [(0, vs e_S_api_Member p0), (1, vs e_S_api_Member p1), (5, .ptr (some (h5.size, 0))), (6, .ptr (some (h6.size, 0))), (7, .ptr (some (h10.size, 0))), (22, .agg [vs eS x7.Added, vs eS x7.Removed, vs eS x7.Changed])] H (fun fr => by kernel_rfl) (fun fr => .of (s_n' (by kernel_rfl) (congrArg some e3.symm))) ?_
      intro fr t H
      obtain ⟨h12, hx, A1⟩ := A.st 0 rfl (o := 0) (new := [vs eS x7.Added, vs eS x7.Removed, vs eS x7.Changed]) (ds := [vs eS x7.Added, vs eS x7.Removed, vs eS x7.Changed]) (Nat.le_of_ble_eq_true rfl) rfl rfl
      replace A : HH g h12 [.obj h10.size (.cells none 2 [vs eS x7.Added, vs eS x7.Removed, vs eS x7.Changed]), .obj h6.size (.cells none 2 [vs eS x6.Added, vs eS x6.Removed, vs eS x6.Changed]), .obj h5.size (.cells none 2 [vs eS x5.Added, vs eS x5.Removed, vs eS x5.Changed])] F := A1
      refine at_step (v := .tuple []) (h1 := h12) [(0, vs e_S_api_Member p0), (1, vs e_S_api_Member p1), (5, .ptr (some (h5.size, 0))), (6, .ptr (some (h6.size, 0))), (7, .ptr (some (h10.size, 0)))] H (fun fr => by kernel_rfl) (fun fr => .of (s_stG (by kernel_rfl) (stG_st hx rfl))) ?_
      intro fr t H
      refine at_nil ?_
      show AW cfg 6 g (right (right (right (right (bodyC cfg.P 6))))) fr h12 _
      refine aw_seq (by kernel_rfl) ?_
      refine aw_draw (id := 5) (n := 30) (by kernel_rfl) [(0, []), (1, []), (2, []), (3, [0]), (4, []), (5, []), (6, []), (7, []), (8, []), (9, []), (10, []), (11, []), (12, []), (13, []), (14, []), (15, []), (16, []), (17, []), (18, []), (19, []), (20, []), (21, []), (22, []), (23, []), (24, []), (25, []), (26, []), (27, []), (28, []), (29, [])] (by kernel_rfl) ?_
      refine at_stepT (v := .agg [vs eS x5.Added, vs eS x5.Removed, vs eS x5.Changed]) (h1 := h12) (tch' := [(0, h5.size)]) (g.prot) [(0, vs e_S_api_Member p0), (1, vs e_S_api_Member p1), (5, .ptr (some (h5.size, 0))), (6, .ptr (some (h6.size, 0))), (7, .ptr (some (h10.size, 0))), (23, .agg [vs eS x5.Added, vs eS x5.Removed, vs eS x5.Changed])] H (fun fr => by kernel_rfl) (by kernel_rfl) (fun fr => by kernel_rfl) (fun fr => .of (s_ldA (by kernel_rfl) (A.ldA 2 rfl (o := 0) (n := 3) ⟨Nat.le_of_ble_eq_true rfl, rfl⟩))) ?_
      intro fr H
      refine at_seg [(1, []), (2, [])] [(0, vs e_S_api_Member p0), (1, vs e_S_api_Member p1), (5, .ptr (some (h5.size, 0))), (6, .ptr (some (h6.size, 0))), (7, .ptr (some (h10.size, 0))), (23, .agg [vs eS x5.Added, vs eS x5.Removed, vs eS x5.Changed]), (24, vs e_S_api_Member p0), (25, vs e_S_api_Member p1)] H (noU_all rfl) (fun fr => by kernel_rfl) ?_
      intro fr H
      have A1 := A.prot2 0 (pr := [h5.size]) (.cons 2 rfl (by simp [Ck.ids]) .nil)
      obtain ⟨x8, hx, hm⟩ := bind_some hm
      obtain ⟨v1, h13, hr, rfl, A1⟩ := ok_boulterref38_Of (av := [vs e_S_api_Member p0, vs e_S_api_Member p1]) hx (by kernel_rfl) A1
      replace A : HH g h13 [.obj h10.size (.cells none 2 [vs eS x7.Added, vs eS x7.Removed, vs eS x7.Changed]), .obj h6.size (.cells none 2 [vs eS x6.Added, vs eS x6.Removed, vs eS x6.Changed]), .obj h5.size (.cells none 2 [vs eS x5.Added, vs eS x5.Removed, vs eS x5.Changed])] F := A.glueP (n := 0) A1
      refine at_stepT (v := .agg [vs eS x8.Added, vs eS x8.Removed, vs eS x8.Changed]) (h1 := h13) (tch' := [(0, h5.size)]) (h5.size :: g.prot) [(0, vs e_S_api_Member p0), (1, vs e_S_api_Member p1), (5, .ptr (some (h5.size, 0))), (6, .ptr (some (h6.size, 0))), (7, .ptr (some (h10.size, 0))), (23, .agg [vs eS x5.Added, vs eS x5.Removed, vs eS x5.Changed]), (26, .agg [vs eS x8.Added, vs eS x8.Removed, vs eS x8.Changed])] H (fun fr => by kernel_rfl) (by kernel_rfl) (fun fr => by kernel_rfl) (fun fr => Steps.call (by kernel_rfl) hr) ?_
      intro fr H
      have A1 := A.cut 0
      obtain ⟨x9, hx, hm⟩ := bind_some hm
      obtain ⟨v1, h14, hr, rfl, A1⟩ := ok_boulterlaw38_same (av := [.agg [vs eS x5.Added, vs eS x5.Removed, vs eS x5.Changed], .agg [vs eS x8.Added, vs eS x8.Removed, vs eS x8.Changed]]) hx (by kernel_rfl) A1
      replace A : HH g h14 [.obj h10.size (.cells none 2 [vs eS x7.Added, vs eS x7.Removed, vs eS x7.Changed]), .obj h6.size (.cells none 2 [vs eS x6.Added, vs eS x6.Removed, vs eS x6.Changed]), .obj h5.size (.cells none 2 [vs eS x5.Added, vs eS x5.Removed, vs eS x5.Changed])] F := A.glue0 (n := 0) A1
      refine at_stepT (v := .bool x9) (h1 := h14) (tch' := [(0, h5.size)]) (g.prot) [(0, vs e_S_api_Member p0), (1, vs e_S_api_Member p1), (5, .ptr (some (h5.size, 0))), (6, .ptr (some (h6.size, 0))), (7, .ptr (some (h10.size, 0))), (27, .bool x9)] H (fun fr => by kernel_rfl) (by kernel_rfl) (fun fr => by kernel_rfl) (fun fr => Steps.call (by kernel_rfl) hr) ?_
      intro fr H
      refine at_seg [(5, [])] [(0, vs e_S_api_Member p0), (1, vs e_S_api_Member p1), (5, .ptr (some (h5.size, 0))), (6, .ptr (some (h6.size, 0))), (7, .ptr (some (h10.size, 0))), (28, .bool x9)] H (noU_all rfl) (fun fr => by kernel_rfl) ?_
      intro fr H
      obtain ⟨x10, ho, hm⟩ := bind_some hm
      refine at_cut [(6, []), (7, []), (8, []), (9, []), (10, []), (11, []), (12, []), (13, []), (14, []), (15, [])] (fun fr' h' => Has fr' 52 [(0, vs e_S_api_Member p0), (1, vs e_S_api_Member p1), (5, .ptr (some (h5.size, 0))), (38, .bool x10)] ∧ HH g h' [.obj h10.size (.cells none 2 [vs eS x7.Added, vs eS x7.Removed, vs eS x7.Changed]), .obj h6.size (.cells none 2 [vs eS x6.Added, vs eS x6.Removed, vs eS x6.Changed]), .obj h5.size (.cells none 2 [vs eS x5.Added, vs eS x5.Removed, vs eS x5.Changed])] F) ?_ ?_
      · rcases iteB_some ho with ⟨hb, hm⟩ | ⟨hb, hm⟩
        · replace H := H.know 28 hb (by kernel_rfl)
          refine at_stepT (v := .agg [vs eS x6.Added, vs eS x6.Removed, vs eS x6.Changed]) (h1 := h14) (tch' := [(6, h6.size), (0, h5.size)]) (g.prot) [(0, vs e_S_api_Member p0), (1, vs e_S_api_Member p1), (5, .ptr (some (h5.size, 0))), (7, .ptr (some (h10.size, 0))), (28, .bool true), (29, .agg [vs eS x6.Added, vs eS x6.Removed, vs eS x6.Changed])] H (fun fr => by kernel_rfl) (by kernel_rfl) (fun fr => by kernel_rfl) (fun fr => .of (s_ldA (by kernel_rfl) (A.ldA 1 rfl (o := 0) (n := 3) ⟨Nat.le_of_ble_eq_true rfl, rfl⟩))) ?_
          intro fr H
          refine at_seg [(7, [])] [(0, vs e_S_api_Member p0), (1, vs e_S_api_Member p1), (5, .ptr (some (h5.size, 0))), (7, .ptr (some (h10.size, 0))), (28, .bool true), (29, .agg [vs eS x6.Added, vs eS x6.Removed, vs eS x6.Changed]), (30, .ptr (some (h10.size, 0)))] H (noU_all rfl) (fun fr => by kernel_rfl) ?_
          intro fr H
          refine at_stepT (v := vs eS x7.Added) (h1 := h14) (tch' := [(8, h10.size), (6, h6.size), (0, h5.size)]) (g.prot) [(0, vs e_S_api_Member p0), (1, vs e_S_api_Member p1), (5, .ptr (some (h5.size, 0))), (7, .ptr (some (h10.size, 0))), (28, .bool true), (29, .agg [vs eS x6.Added, vs eS x6.Removed, vs eS x6.Changed]), (31, vs eS x7.Added)] H (fun fr => by kernel_rfl) (by kernel_rfl) (fun fr => by kernel_rfl) (fun fr => .of (s_ld (by kernel_rfl) (A.ld1 0 rfl (o := 0) rfl))) ?_
          intro fr H
          refine at_seg [(9, [])] [(0, vs e_S_api_Member p0), (1, vs e_S_api_Member p1), (5, .ptr (some (h5.size, 0))), (7, .ptr (some (h10.size, 0))), (28, .bool true), (29, .agg [vs eS x6.Added, vs eS x6.Removed, vs eS x6.Changed]), (31, vs eS x7.Added), (32, .ptr (some (h10.size, 1)))] H (noU_all rfl) (fun fr => by kernel_rfl) ?_
          intro fr H
          refine at_stepT (v := vs eS x7.Removed) (h1 := h14) (tch' := [(10, h10.size), (8, h10.size), (6, h6.size), (0, h5.size)]) (g.prot) [(0, vs e_S_api_Member p0), (1, vs e_S_api_Member p1), (5, .ptr (some (h5.size, 0))), (7, .ptr (some (h10.size, 0))), (28, .bool true), (29, .agg [vs eS x6.Added, vs eS x6.Removed, vs eS x6.Changed]), (31, vs eS x7.Added), (33, vs eS x7.Removed)] H (fun fr => by kernel_rfl) (by kernel_rfl) (fun fr => by kernel_rfl) (fun fr => .of (s_ld (by kernel_rfl) (A.ld1 0 rfl (o := 1) rfl))) ?_
          intro fr H
          refine at_seg [(11, [])] [(0, vs e_S_api_Member p0), (1, vs e_S_api_Member p1), (5, .ptr (some (h5.size, 0))), (28, .bool true), (29, .agg [vs eS x6.Added, vs eS x6.Removed, vs eS x6.Changed]), (31, vs eS x7.Added), (33, vs eS x7.Removed), (34, .ptr (some (h10.size, 2)))] H (noU_all rfl) (fun fr => by kernel_rfl) ?_
          intro fr H
          refine at_stepT (v := vs eS x7.Changed) (h1 := h14) (tch' := [(12, h10.size), (10, h10.size), (8, h10.size), (6, h6.size), (0, h5.size)]) (g.prot) [(0, vs e_S_api_Member p0), (1, vs e_S_api_Member p1), (5, .ptr (some (h5.size, 0))), (28, .bool true), (29, .agg [vs eS x6.Added, vs eS x6.Removed, vs eS x6.Changed]), (31, vs eS x7.Added), (33, vs eS x7.Removed), (35, vs eS x7.Changed)] H (fun fr => by kernel_rfl) (by kernel_rfl) (fun fr => by kernel_rfl) (fun fr => .of (s_ld (by kernel_rfl) (A.ld1 0 rfl (o := 2) rfl))) ?_
          intro fr H
          refine at_seg [(13, [])] [(0, vs e_S_api_Member p0), (1, vs e_S_api_Member p1), (5, .ptr (some (h5.size, 0))), (28, .bool true), (29, .agg [vs eS x6.Added, vs eS x6.Removed, vs eS x6.Changed]), (36, .agg [vs eS x7.Added, vs eS x7.Removed, vs eS x7.Changed])] H (noU_all rfl) (fun fr => by kernel_rfl) ?_
          intro fr H
          have A1 := A.cut 0
          obtain ⟨x11, hx, hm⟩ := bind_some hm
          obtain ⟨v1, h16, hr, rfl, A1⟩ := ok_boulterlaw38_same (av := [.agg [vs eS x6.Added, vs eS x6.Removed, vs eS x6.Changed], .agg [vs eS x7.Added, vs eS x7.Removed, vs eS x7.Changed]]) hx (by kernel_rfl) A1
          replace A : HH g h16 [.obj h10.size (.cells none 2 [vs eS x7.Added, vs eS x7.Removed, vs eS x7.Changed]), .obj h6.size (.cells none 2 [vs eS x6.Added, vs eS x6.Removed, vs eS x6.Changed]), .obj h5.size (.cells none 2 [vs eS x5.Added, vs eS x5.Removed, vs eS x5.Changed])] F := A.glue0 (n := 0) A1
          refine at_stepT (v := .bool x11) (h1 := h16) (tch' := [(12, h10.size), (10, h10.size), (8, h10.size), (6, h6.size), (0, h5.size)]) (g.prot) [(0, vs e_S_api_Member p0), (1, vs e_S_api_Member p1), (5, .ptr (some (h5.size, 0))), (28, .bool true), (37, .bool x11)] H (fun fr => by kernel_rfl) (by kernel_rfl) (fun fr => by kernel_rfl) (fun fr => Steps.call (by kernel_rfl) hr) ?_
          intro fr H
          refine at_seg [(15, [])] [(0, vs e_S_api_Member p0), (1, vs e_S_api_Member p1), (5, .ptr (some (h5.size, 0))), (38, .bool x11)] H (noU_all rfl) (fun fr => by kernel_rfl) ?_
          intro fr H
          have e1 := Option.some.inj hm
          subst e1
          exact at_nil ⟨H.less _ (fun fr => by kernel_rfl), A⟩
        · replace H := H.know 28 hb (by kernel_rfl)
          refine at_seg [(6, []), (7, []), (8, []), (9, []), (10, []), (11, []), (12, []), (13, []), (14, []), (15, [])] [(0, vs e_S_api_Member p0), (1, vs e_S_api_Member p1), (5, .ptr (some (h5.size, 0))), (38, .bool false)] H (noU_all rfl) (fun fr => by kernel_rfl) ?_
          intro fr H
          have e1 := Option.some.inj hm
          subst e1
          exact at_nil ⟨H.less _ (fun fr => by kernel_rfl), A⟩
      · clear A
        intro t fr h15 hK
        obtain ⟨H, A⟩ := hK
        refine at_seg [(16, [])] [(0, vs e_S_api_Member p0), (1, vs e_S_api_Member p1), (5, .ptr (some (h5.size, 0))), (39, .bool x10)] H (noU_all rfl) (fun fr => by kernel_rfl) ?_
        intro fr H
        obtain ⟨x12, ho, hm⟩ := bind_some hm
        refine at_cut [(17, []), (18, []), (19, []), (20, []), (21, []), (22, []), (23, []), (24, []), (25, [])] (fun fr' h' => Has fr' 52 [(48, .bool x12)] ∧ HH g h' [.obj h10.size (.cells none 2 [vs eS x7.Added, vs eS x7.Removed, vs eS x7.Changed]), .obj h6.size (.cells none 2 [vs eS x6.Added, vs eS x6.Removed, vs eS x6.Changed]), .obj h5.size (.cells none 2 [vs eS x5.Added, vs eS x5.Removed, vs eS x5.Changed])] F) ?_ ?_
        · rcases iteB_some ho with ⟨hb, hm⟩ | ⟨hb, hm⟩
          · replace H := H.know 39 hb (by kernel_rfl)
            refine at_step (v := .agg [vs eS x5.Added, vs eS x5.Removed, vs eS x5.Changed]) (h1 := h15) [(0, vs e_S_api_Member p0), (1, vs e_S_api_Member p1), (39, .bool true), (40, .agg [vs eS x5.Added, vs eS x5.Removed, vs eS x5.Changed])] H (fun fr => by kernel_rfl) (fun fr => .of (s_ldA (by kernel_rfl) (A.ldA 2 rfl (o := 0) (n := 3) ⟨Nat.le_of_ble_eq_true rfl, rfl⟩))) ?_
            intro fr t H
            have A1 := A.cut 0
            obtain ⟨x13, hx, hm⟩ := bind_some hm
            obtain ⟨v1, h18, hr, rfl, A1⟩ := ok_delta_Diff_Empty (av := [.agg [vs eS x5.Added, vs eS x5.Removed, vs eS x5.Changed]]) hx (by kernel_rfl) A1
            replace A : HH g h18 [.obj h10.size (.cells none 2 [vs eS x7.Added, vs eS x7.Removed, vs eS x7.Changed]), .obj h6.size (.cells none 2 [vs eS x6.Added, vs eS x6.Removed, vs eS x6.Changed]), .obj h5.size (.cells none 2 [vs eS x5.Added, vs eS x5.Removed, vs eS x5.Changed])] F := A.glue0 (n := 0) A1
            refine at_step (v := .bool x13) (h1 := h18) [(0, vs e_S_api_Member p0), (1, vs e_S_api_Member p1), (39, .bool true), (41, .bool x13)] H (fun fr => by kernel_rfl) (fun fr => Steps.call (by kernel_rfl) hr) ?_
            intro fr t H
            refine at_seg [(19, [])] [(1, vs e_S_api_Member p1), (39, .bool true), (41, .bool x13), (42, vs e_S_api_Member p0)] H (noU_all rfl) (fun fr => by kernel_rfl) ?_
            intro fr H
            have A1 := A.cut 0
            obtain ⟨x14, hx, hm⟩ := bind_some hm
            obtain ⟨v1, h19, hr, rqw10, rfl, A1⟩ := ok_delta_Sorted (av := [vs e_S_api_Member p0]) hx (by kernel_rfl) A1
            replace A : HH g h19 [.lst rqw10 63 (lst e_S_api_Member x14), .obj h10.size (.cells none 2 [vs eS x7.Added, vs eS x7.Removed, vs eS x7.Changed]), .obj h6.size (.cells none 2 [vs eS x6.Added, vs eS x6.Removed, vs eS x6.Changed]), .obj h5.size (.cells none 2 [vs eS x5.Added, vs eS x5.Removed, vs eS x5.Changed])] F := A.glue0 (n := 0) A1
            refine at_step (v := rowV rqw10 x14.length) (h1 := h19) [(1, vs e_S_api_Member p1), (39, .bool true), (41, .bool x13), (43, rowV rqw10 x14.length)] H (fun fr => by kernel_rfl) (fun fr => Steps.call (by kernel_rfl) hr) ?_
            intro fr t H
            refine at_seg [(21, [])] [(39, .bool true), (41, .bool x13), (43, rowV rqw10 x14.length), (44, vs e_S_api_Member p1)] H (noU_all rfl) (fun fr => by kernel_rfl) ?_
            intro fr H
            have A1 := A.cut 0
            obtain ⟨x15, hx, hm⟩ := bind_some hm
            obtain ⟨v1, h20, hr, rqw11, rfl, A1⟩ := ok_delta_Sorted (av := [vs e_S_api_Member p1]) hx (by kernel_rfl) A1
            replace A : HH g h20 [.lst rqw11 63 (lst e_S_api_Member x15), .lst rqw10 63 (lst e_S_api_Member x14), .obj h10.size (.cells none 2 [vs eS x7.Added, vs eS x7.Removed, vs eS x7.Changed]), .obj h6.size (.cells none 2 [vs eS x6.Added, vs eS x6.Removed, vs eS x6.Changed]), .obj h5.size (.cells none 2 [vs eS x5.Added, vs eS x5.Removed, vs eS x5.Changed])] F := A.glue0 (n := 0) A1
            refine at_step (v := rowV rqw11 x15.length) (h1 := h20) [(39, .bool true), (41, .bool x13), (43, rowV rqw10 x14.length), (45, rowV rqw11 x15.length)] H (fun fr => by kernel_rfl) (fun fr => Steps.call (by kernel_rfl) hr) ?_
            intro fr t H
            replace A : HH g h20 [.lst rqw10 63 (lst e_S_api_Member x14), .lst rqw11 63 (lst e_S_api_Member x15), .obj h10.size (.cells none 2 [vs eS x7.Added, vs eS x7.Removed, vs eS x7.Changed]), .obj h6.size (.cells none 2 [vs eS x6.Added, vs eS x6.Removed, vs eS x6.Changed]), .obj h5.size (.cells none 2 [vs eS x5.Added, vs eS x5.Removed, vs eS x5.Changed])] F := ((A.front 0 rfl).front 1 rfl)
            have A1 := A.cut 2
            obtain ⟨x16, hx, hm⟩ := bind_some hm
            obtain ⟨v1, h21, hr, rfl, A1⟩ := ok_boulterref12_Same_sOO (av := [rowV rqw10 x14.length, rowV rqw11 x15.length]) hx (by kernel_rfl) A1
            replace A : HH g h21 [.lst rqw10 63 (lst e_S_api_Member x14), .lst rqw11 63 (lst e_S_api_Member x15), .obj h10.size (.cells none 2 [vs eS x7.Added, vs eS x7.Removed, vs eS x7.Changed]), .obj h6.size (.cells none 2 [vs eS x6.Added, vs eS x6.Removed, vs eS x6.Changed]), .obj h5.size (.cells none 2 [vs eS x5.Added, vs eS x5.Removed, vs eS x5.Changed])] F := A.glue0 (n := 2) A1
            refine at_step (v := .bool x16) (h1 := h21) [(39, .bool true), (41, .bool x13), (46, .bool x16)] H (fun fr => by kernel_rfl) (fun fr => Steps.call (by kernel_rfl) hr) ?_
            intro fr t H
            refine at_seg [(24, []), (25, [])] [(48, .bool (x13 == x16))] H (noU_all rfl) (fun fr => by kernel_rfl) ?_
            intro fr H
            have e1 := Option.some.inj hm
            subst e1
            replace A : HH g h21 [.obj h10.size (.cells none 2 [vs eS x7.Added, vs eS x7.Removed, vs eS x7.Changed]), .obj h6.size (.cells none 2 [vs eS x6.Added, vs eS x6.Removed, vs eS x6.Changed]), .obj h5.size (.cells none 2 [vs eS x5.Added, vs eS x5.Removed, vs eS x5.Changed])] F := (HH.dropF (((A.front 4 rfl).front 4 rfl).front 4 rfl) 3)
            exact at_nil ⟨H.less _ (fun fr => by kernel_rfl), A⟩
          · replace H := H.know 39 hb (by kernel_rfl)
            refine at_seg [(17, []), (18, []), (19, []), (20, []), (21, []), (22, []), (23, []), (24, []), (25, [])] [(48, .bool false)] H (noU_all rfl) (fun fr => by kernel_rfl) ?_
            intro fr H
            have e1 := Option.some.inj hm
            subst e1
            exact at_nil ⟨H.less _ (fun fr => by kernel_rfl), A⟩
        · clear A
          intro t fr h17 hK
          obtain ⟨H, A⟩ := hK
          refine at_seg [(26, [])] [(49, .bool x12)] H (noU_all rfl) (fun fr => by kernel_rfl) ?_
          intro fr H
          obtain ⟨x17, ho, hm⟩ := bind_some hm
          refine at_cut [(27, []), (28, [])] (fun fr' h' => Has fr' 52 [(51, .bool x17)] ∧ HH g h' [.obj h10.size (.cells none 2 [vs eS x7.Added, vs eS x7.Removed, vs eS x7.Changed]), .obj h6.size (.cells none 2 [vs eS x6.Added, vs eS x6.Removed, vs eS x6.Changed]), .obj h5.size (.cells none 2 [vs eS x5.Added, vs eS x5.Removed, vs eS x5.Changed])] F) ?_ ?_
          · rcases iteB_some ho with ⟨hb, hm⟩ | ⟨hb, hm⟩
            · replace H := H.know 49 hb (by kernel_rfl)
              obtain ⟨x18, hx, hm⟩ := bind_some hm
              refine at_step (v := .bool x18) (h1 := h17) [(49, .bool true), (50, .bool x18)] H (fun fr => by kernel_rfl) (fun fr => Steps.call (by kernel_rfl) (ok_boulterlaw38_awake hx)) ?_
              intro fr t H
              refine at_seg [(28, [])] [(51, .bool x18)] H (noU_all rfl) (fun fr => by kernel_rfl) ?_
              intro fr H
              have e1 := Option.some.inj hm
              subst e1
              exact at_nil ⟨H.less _ (fun fr => by kernel_rfl), A⟩
            · replace H := H.know 49 hb (by kernel_rfl)
              refine at_seg [(27, []), (28, [])] [(51, .bool false)] H (noU_all rfl) (fun fr => by kernel_rfl) ?_
              intro fr H
              have e1 := Option.some.inj hm
              subst e1
              exact at_nil ⟨H.less _ (fun fr => by kernel_rfl), A⟩
          · clear A
            intro t fr h22 hK
            obtain ⟨H, A⟩ := hK
            refine at_seg [(29, [])] [(4, .bool x17)] H (noU_all rfl) (fun fr => by kernel_rfl) ?_
            intro fr H
            refine at_nil ?_
            show AW cfg 6 g (right (right (right (right (right (bodyC cfg.P 6)))))) fr h22 _
            refine aw_ret (by kernel_rfl) ?_
            have e1 := Option.some.inj hm
            subst e1
            refine ⟨.inl rfl, .bool x17, resH H (fun fr => by kernel_rfl), ?_⟩
            replace A : HH g h22 [] F := (HH.dropF A 0)
            exact ⟨rfl, A⟩
end Go.Av.L
