/-
  Models of functions of package tree, and that the abstract run tells them. Written by lift.py.
-/
import Derived.Test.YtmjljpnalhknfaaDoorLCfg
namespace Go.Abs.L
open Go.Abs
set_option linter.unusedVariables false
/-! ### boulter/tree.bare -/
noncomputable def M_tree_bare (g : Gd) (h : AHeap) (p0 : List AVal) : Option (((List AVal) × Bool) × AHeap) :=
 need (p0.all AVal.one) <| (some (h.push (.cells none 2 p0))).bind fun h1 => (some (h1.push (.cells none 2 [.int .i64 (0 : Int), .int .i64 (0 : Int), .int .i64 (0 : Int), .int .i64 (0 : Int), .int .i64 (0 : Int), .int .i64 (0 : Int), .int .u64 (0 : Int), .int .u64 (0 : Int), .int .u64 (0 : Int), .int .u64 (0 : Int)]))).bind fun h2 => (ldI h2 (h.size, 0) .i64).bind fun x1 => (iteB (x1 == (0 : Int)) (some true) (iteB (x1 == (6 : Int)) (some true) (some (x1 == (7 : Int)))) : Option ((Bool))).bind fun x2 => iteB x2 ((ldI h2 (h.size, 0) .i64).bind fun x3 => (stG 10 g h2 (h1.size, 0) [.int .i64 x3, .int .i64 (0 : Int), .int .i64 (0 : Int), .int .i64 (0 : Int), .int .i64 (0 : Int), .int .i64 (0 : Int), .int .u64 (0 : Int), .int .u64 (0 : Int), .int .u64 (0 : Int), .int .u64 (0 : Int)]).bind fun h3 => (ldA h3 (h1.size, 0) 10).bind fun x4 => some ((x4, true), h3)) (iteB (x1 == (1 : Int)) ((ldA h2 (h.size, 6) 4).bind fun x5 => need (Nat.beq x5.length 4) <| (stG 10 g h2 (h1.size, 0) (([.int .i64 (1 : Int), .int .i64 (0 : Int), .int .i64 (0 : Int), .int .i64 (0 : Int), .int .i64 (0 : Int), .int .i64 (0 : Int)] : List AVal) ++ x5)).bind fun h4 => (ldA h4 (h1.size, 0) 10).bind fun x6 => some ((x6, true), h4)) ((iteB (x1 == (2 : Int)) (some true) (some (x1 == (3 : Int))) : Option ((Bool))).bind fun x7 => iteB x7 ((ldI h2 (h.size, 0) .i64).bind fun x8 => (ldI h2 (h.size, 1) .i64).bind fun x9 => (ldI h2 (h.size, 2) .i64).bind fun x10 => (stG 10 g h2 (h1.size, 0) [.int .i64 x8, .int .i64 x9, .int .i64 x10, .int .i64 (0 : Int), .int .i64 (0 : Int), .int .i64 (0 : Int), .int .u64 (0 : Int), .int .u64 (0 : Int), .int .u64 (0 : Int), .int .u64 (0 : Int)]).bind fun h5 => (ldA h5 (h1.size, 0) 10).bind fun x11 => some ((x11, true), h5)) (iteB (x1 == (4 : Int)) ((ldI h2 (h.size, 1) .i64).bind fun x12 => (ldI h2 (h.size, 3) .i64).bind fun x13 => (ldI h2 (h.size, 4) .i64).bind fun x14 => (stG 10 g h2 (h1.size, 0) [.int .i64 (4 : Int), .int .i64 x12, .int .i64 (0 : Int), .int .i64 x13, .int .i64 x14, .int .i64 (0 : Int), .int .u64 (0 : Int), .int .u64 (0 : Int), .int .u64 (0 : Int), .int .u64 (0 : Int)]).bind fun h6 => (ldA h6 (h1.size, 0) 10).bind fun x15 => some ((x15, true), h6)) (iteB (x1 == (5 : Int)) ((ldI h2 (h.size, 1) .i64).bind fun x16 => (ldI h2 (h.size, 5) .i64).bind fun x17 => (stG 10 g h2 (h1.size, 0) [.int .i64 (5 : Int), .int .i64 x16, .int .i64 (0 : Int), .int .i64 (0 : Int), .int .i64 (0 : Int), .int .i64 x17, .int .u64 (0 : Int), .int .u64 (0 : Int), .int .u64 (0 : Int), .int .u64 (0 : Int)]).bind fun h7 => (ldA h7 (h1.size, 0) 10).bind fun x18 => some ((x18, true), h7)) ((stG 10 g h2 (h1.size, 0) [.int .i64 (0 : Int), .int .i64 (0 : Int), .int .i64 (0 : Int), .int .i64 (0 : Int), .int .i64 (0 : Int), .int .i64 (0 : Int), .int .u64 (0 : Int), .int .u64 (0 : Int), .int .u64 (0 : Int), .int .u64 (0 : Int)]).bind fun h8 => (ldA h8 (h1.size, 0) 10).bind fun x19 => some ((x19, false), h8))))))
theorem ok_tree_bare {g : Gd} {h h' : AHeap} {p0 : List AVal} {r0 : List AVal} {r1 : Bool} (hm : M_tree_bare g h p0 = some ((r0, r1), h')) : Runs cfg g h 30 [.agg p0] (.tuple [.agg r0, .bool r1]) h' := by
  refine runs1 (by kernel_rfl) (body_of (n := 45) (rs := [.cell 2 30, .tmp 3]) (by kernel_rfl) ?_)
  unfold M_tree_bare at hm
  refine start (n := 45) [(0, .agg p0)] (by kernel_rfl) (by kernel_rfl) ?_
  intro fr H
  refine aw_seq (by kernel_rfl) ?_
  refine aw_reg (id := 0) (n := 3) [(0, []), (1, []), (2, [])] (by kernel_rfl) (by kernel_rfl) ?_
  obtain ⟨hb, hm⟩ := need_some hm
  obtain ⟨h1, hx, hm⟩ := bind_some hm
  refine at_step (v := .ptr (some (h.size, 0))) (h1 := h1) [(1, .ptr (some (h.size, 0)))] H (fun fr => by kernel_rfl) (fun fr => .of (s_boxG (by kernel_rfl) hb hx)) ?_
  intro fr t H
  obtain ⟨h2, hx, hm⟩ := bind_some hm
  refine at_step (v := .ptr (some (h1.size, 0))) (h1 := h2) [(1, .ptr (some (h.size, 0))), (2, .ptr (some (h1.size, 0)))] H (fun fr => by kernel_rfl) (fun fr => .of (s_n' (by kernel_rfl) hx)) ?_
  intro fr t H
  refine at_seg [(2, [])] [(1, .ptr (some (h.size, 0))), (2, .ptr (some (h1.size, 0)))] H (noU_all rfl) (fun fr => by kernel_rfl) ?_
  intro fr H
  refine at_nil ?_
  show AW cfg 30 g (right (bodyC cfg.P 30)) fr h2 _
  refine aw_seq (by kernel_rfl) ?_
  refine aw_seq (by kernel_rfl) ?_
  refine aw_reg (id := 1) (n := 2) [(0, []), (1, [])] (by kernel_rfl) (by kernel_rfl) ?_
  refine at_seg [(0, [])] [(1, .ptr (some (h.size, 0))), (2, .ptr (some (h1.size, 0))), (4, .ptr (some (h.size, 0)))] H (noU_all rfl) (fun fr => by kernel_rfl) ?_
  intro fr H
  obtain ⟨x1, hx, hm⟩ := bind_some hm
  refine at_step (v := .int .i64 x1) (h1 := h2) [(1, .ptr (some (h.size, 0))), (2, .ptr (some (h1.size, 0))), (5, .int .i64 x1)] H (fun fr => by kernel_rfl) (fun fr => .of (s_ld (by kernel_rfl) (ldI_eq hx))) ?_
  intro fr t H
  refine at_nil ?_
  show AW cfg 30 g (right (left (right (bodyC cfg.P 30)))) fr h2 _
  refine aw_block (id := 0) (by kernel_rfl) ?_
  refine aw_seq (by kernel_rfl) ?_
  obtain ⟨o1, ho, hm⟩ := bind_some hm
  refine aw_mono (Q' := fun e fr' h' => (∃ (x2 : Bool), e = .normal ∧ x2 = o1 ∧ h2 = h' ∧ Has fr' 45 [(1, .ptr (some (h.size, 0))), (2, .ptr (some (h1.size, 0))), (5, .int .i64 x1), (6, .bool x2)]) ∨ False) ?_ ?_
  · replace hm := ho
    clear ho
    refine aw_seq (by kernel_rfl) ?_
    refine aw_reg (id := 2) (n := 2) [(0, []), (1, [])] (by kernel_rfl) (by kernel_rfl) ?_
    refine at_seg [(0, []), (1, [])] [(1, .ptr (some (h.size, 0))), (2, .ptr (some (h1.size, 0))), (5, .int .i64 x1), (6, .bool (x1 == (0 : Int)))] H (noU_all rfl) (fun fr => by kernel_rfl) ?_
    intro fr H
    refine at_nil ?_
    show AW cfg 30 g (right (left (left (right (left (right (bodyC cfg.P 30))))))) fr h2 _
    rcases iteB_some hm with ⟨hb, hm⟩ | ⟨hb, hm⟩
    · replace H := H.know 6 hb (by kernel_rfl)
      refine aw_true (x := .tmp 6) (by kernel_rfl) H (fun fr => by kernel_rfl) ?_
      refine aw_skip (by kernel_rfl) ?_
      exact Or.inl ⟨true, rfl, Option.some.inj hm, rfl, H.less _ (fun fr => by kernel_rfl)⟩
    · replace H := H.know 6 hb (by kernel_rfl)
      refine aw_false (x := .tmp 6) (by kernel_rfl) H (fun fr => by kernel_rfl) ?_
      refine aw_seq (by kernel_rfl) ?_
      refine aw_reg (id := 3) (n := 2) [(0, []), (1, [])] (by kernel_rfl) (by kernel_rfl) ?_
      refine at_seg [(0, []), (1, [])] [(1, .ptr (some (h.size, 0))), (2, .ptr (some (h1.size, 0))), (5, .int .i64 x1), (6, .bool (x1 == (6 : Int)))] H (noU_all rfl) (fun fr => by kernel_rfl) ?_
      intro fr H
      refine at_nil ?_
      show AW cfg 30 g (right (right (right (left (left (right (left (right (bodyC cfg.P 30))))))))) fr h2 _
      rcases iteB_some hm with ⟨hb, hm⟩ | ⟨hb, hm⟩
      · replace H := H.know 6 hb (by kernel_rfl)
        refine aw_true (x := .tmp 6) (by kernel_rfl) H (fun fr => by kernel_rfl) ?_
        refine aw_skip (by kernel_rfl) ?_
        exact Or.inl ⟨true, rfl, Option.some.inj hm, rfl, H.less _ (fun fr => by kernel_rfl)⟩
      · replace H := H.know 6 hb (by kernel_rfl)
        refine aw_false (x := .tmp 6) (by kernel_rfl) H (fun fr => by kernel_rfl) ?_
        refine aw_reg (id := 4) (n := 2) [(0, []), (1, [])] (by kernel_rfl) (by kernel_rfl) ?_
        refine at_seg [(0, []), (1, [])] [(1, .ptr (some (h.size, 0))), (2, .ptr (some (h1.size, 0))), (5, .int .i64 x1), (6, .bool (x1 == (7 : Int)))] H (noU_all rfl) (fun fr => by kernel_rfl) ?_
        intro fr H
        refine at_nil ?_
        exact Or.inl ⟨x1 == (7 : Int), rfl, Option.some.inj hm, rfl, H.less _ (fun fr => by kernel_rfl)⟩
  · clear ho
    intro e fr hz hQ
    rcases hQ with ⟨x2, rfl, rfl, rfl, H⟩ | hF
    · skip
      show AW cfg 30 g (right (left (right (left (right (bodyC cfg.P 30)))))) fr h2 _
      rcases iteB_some hm with ⟨hb, hm⟩ | ⟨hb, hm⟩
      · replace H := H.know 6 hb (by kernel_rfl)
        refine aw_true (x := .tmp 6) (by kernel_rfl) H (fun fr => by kernel_rfl) ?_
        refine aw_seq (by kernel_rfl) ?_
        refine aw_reg (id := 5) (n := 5) [(0, []), (1, []), (2, []), (3, []), (4, [])] (by kernel_rfl) (by kernel_rfl) ?_
        refine at_seg [(0, [])] [(2, .ptr (some (h1.size, 0))), (10, .ptr (some (h.size, 0)))] H (noU_all rfl) (fun fr => by kernel_rfl) ?_
        intro fr H
        obtain ⟨x3, hx, hm⟩ := bind_some hm
        refine at_step (v := .int .i64 x3) (h1 := h2) [(2, .ptr (some (h1.size, 0))), (11, .int .i64 x3)] H (fun fr => by kernel_rfl) (fun fr => .of (s_ld (by kernel_rfl) (ldI_eq hx))) ?_
        intro fr t H
        refine at_seg [(2, [])] [(2, .ptr (some (h1.size, 0))), (12, .agg [.int .i64 x3, .int .i64 (0 : Int), .int .i64 (0 : Int), .int .i64 (0 : Int), .int .i64 (0 : Int), .int .i64 (0 : Int), .int .u64 (0 : Int), .int .u64 (0 : Int), .int .u64 (0 : Int), .int .u64 (0 : Int)])] H (noU_all rfl) (fun fr => by kernel_rfl) ?_
        intro fr H
        obtain ⟨h3, hx, hm⟩ := bind_some hm
        refine at_step (v := .tuple []) (h1 := h3) [(2, .ptr (some (h1.size, 0)))] H (fun fr => by kernel_rfl) (fun fr => .of (s_stG (by kernel_rfl) hx)) ?_
        intro fr t H
        refine at_seg [(4, [])] [(2, .ptr (some (h1.size, 0))), (3, .bool true)] H (noU_all rfl) (fun fr => by kernel_rfl) ?_
        intro fr H
        refine at_nil ?_
        show AW cfg 30 g (right (left (right (left (right (left (right (bodyC cfg.P 30)))))))) fr h3 _
        refine aw_ret (by kernel_rfl) ?_
        obtain ⟨x4, hy0, hm⟩ := bind_some hm
        obtain ⟨e1, e2⟩ := inj2 hm
        subst e2
        obtain ⟨u0, v0⟩ := Prod.mk.inj e1
        subst u0
        subst v0
        exact (done_ret H (fun fr => resL_many (.cell (by kernel_rfl) (load_ldA (by kernel_rfl) (by kernel_rfl) hy0) (.tmp (by kernel_rfl) .nil))) rfl : doneQ cfg.P _ _ _ _ fr _)
      · replace H := H.know 6 hb (by kernel_rfl)
        refine aw_false (x := .tmp 6) (by kernel_rfl) H (fun fr => by kernel_rfl) ?_
        refine aw_seq (by kernel_rfl) ?_
        refine aw_reg (id := 6) (n := 2) [(0, []), (1, [])] (by kernel_rfl) (by kernel_rfl) ?_
        refine at_seg [(0, []), (1, [])] [(1, .ptr (some (h.size, 0))), (2, .ptr (some (h1.size, 0))), (5, .int .i64 x1), (13, .bool (x1 == (1 : Int)))] H (noU_all rfl) (fun fr => by kernel_rfl) ?_
        intro fr H
        refine at_nil ?_
        show AW cfg 30 g (right (right (right (left (right (left (right (bodyC cfg.P 30)))))))) fr h2 _
        rcases iteB_some hm with ⟨hb, hm⟩ | ⟨hb, hm⟩
        · replace H := H.know 13 hb (by kernel_rfl)
          refine aw_true (x := .tmp 13) (by kernel_rfl) H (fun fr => by kernel_rfl) ?_
          refine aw_seq (by kernel_rfl) ?_
          refine aw_reg (id := 7) (n := 5) [(0, []), (1, []), (2, []), (3, []), (4, [])] (by kernel_rfl) (by kernel_rfl) ?_
          refine at_seg [(0, [])] [(2, .ptr (some (h1.size, 0))), (15, .ptr (some (h.size, 6)))] H (noU_all rfl) (fun fr => by kernel_rfl) ?_
          intro fr H
          obtain ⟨x5, hx, hm⟩ := bind_some hm
          refine at_step (v := .agg x5) (h1 := h2) [(2, .ptr (some (h1.size, 0))), (16, .agg x5)] H (fun fr => by kernel_rfl) (fun fr => .of (s_ldA (by kernel_rfl) hx)) ?_
          intro fr t H
          obtain ⟨hb1, hm⟩ := need_some hm
          refine at_step (v := .agg (([.int .i64 (1 : Int), .int .i64 (0 : Int), .int .i64 (0 : Int), .int .i64 (0 : Int), .int .i64 (0 : Int), .int .i64 (0 : Int)] : List AVal) ++ x5)) (h1 := h2) [(2, .ptr (some (h1.size, 0))), (17, .agg (([.int .i64 (1 : Int), .int .i64 (0 : Int), .int .i64 (0 : Int), .int .i64 (0 : Int), .int .i64 (0 : Int), .int .i64 (0 : Int)] : List AVal) ++ x5))] H (fun fr => by kernel_rfl) (fun fr => .of (s_build (t := 30) (ps := [(0, .int .i64 (1 : Int)), (6, .agg x5)]) (by kernel_rfl) (by rw [toN_eq hb1]; kernel_rfl))) ?_
          intro fr t H
          obtain ⟨h4, hx, hm⟩ := bind_some hm
          refine at_step (v := .tuple []) (h1 := h4) [(2, .ptr (some (h1.size, 0)))] H (fun fr => by kernel_rfl) (fun fr => .of (s_stG (by kernel_rfl) hx)) ?_
          intro fr t H
          refine at_seg [(4, [])] [(2, .ptr (some (h1.size, 0))), (3, .bool true)] H (noU_all rfl) (fun fr => by kernel_rfl) ?_
          intro fr H
          refine at_nil ?_
          show AW cfg 30 g (right (left (right (right (right (left (right (left (right (bodyC cfg.P 30)))))))))) fr h4 _
          refine aw_ret (by kernel_rfl) ?_
          obtain ⟨x6, hy0, hm⟩ := bind_some hm
          obtain ⟨e1, e2⟩ := inj2 hm
          subst e2
          obtain ⟨u0, v0⟩ := Prod.mk.inj e1
          subst u0
          subst v0
          exact (done_ret H (fun fr => resL_many (.cell (by kernel_rfl) (load_ldA (by kernel_rfl) (by kernel_rfl) hy0) (.tmp (by kernel_rfl) .nil))) rfl : doneQ cfg.P _ _ _ _ fr _)
        · replace H := H.know 13 hb (by kernel_rfl)
          refine aw_false (x := .tmp 13) (by kernel_rfl) H (fun fr => by kernel_rfl) ?_
          refine aw_seq (by kernel_rfl) ?_
          obtain ⟨o2, ho, hm⟩ := bind_some hm
          refine aw_mono (Q' := fun e fr' h' => (∃ (x7 : Bool), e = .normal ∧ x7 = o2 ∧ h2 = h' ∧ Has fr' 45 [(1, .ptr (some (h.size, 0))), (2, .ptr (some (h1.size, 0))), (5, .int .i64 x1), (18, .bool x7)]) ∨ False) ?_ ?_
          · replace hm := ho
            clear ho
            refine aw_seq (by kernel_rfl) ?_
            refine aw_reg (id := 8) (n := 2) [(0, []), (1, [])] (by kernel_rfl) (by kernel_rfl) ?_
            refine at_seg [(0, []), (1, [])] [(1, .ptr (some (h.size, 0))), (2, .ptr (some (h1.size, 0))), (5, .int .i64 x1), (18, .bool (x1 == (2 : Int)))] H (noU_all rfl) (fun fr => by kernel_rfl) ?_
            intro fr H
            refine at_nil ?_
            show AW cfg 30 g (right (left (right (right (right (right (left (right (left (right (bodyC cfg.P 30))))))))))) fr h2 _
            rcases iteB_some hm with ⟨hb, hm⟩ | ⟨hb, hm⟩
            · replace H := H.know 18 hb (by kernel_rfl)
              refine aw_true (x := .tmp 18) (by kernel_rfl) H (fun fr => by kernel_rfl) ?_
              refine aw_skip (by kernel_rfl) ?_
              exact Or.inl ⟨true, rfl, Option.some.inj hm, rfl, H.less _ (fun fr => by kernel_rfl)⟩
            · replace H := H.know 18 hb (by kernel_rfl)
              refine aw_false (x := .tmp 18) (by kernel_rfl) H (fun fr => by kernel_rfl) ?_
              refine aw_reg (id := 9) (n := 2) [(0, []), (1, [])] (by kernel_rfl) (by kernel_rfl) ?_
              refine at_seg [(0, []), (1, [])] [(1, .ptr (some (h.size, 0))), (2, .ptr (some (h1.size, 0))), (5, .int .i64 x1), (18, .bool (x1 == (3 : Int)))] H (noU_all rfl) (fun fr => by kernel_rfl) ?_
              intro fr H
              refine at_nil ?_
              exact Or.inl ⟨x1 == (3 : Int), rfl, Option.some.inj hm, rfl, H.less _ (fun fr => by kernel_rfl)⟩
          · clear ho
            intro e fr hz hQ
            rcases hQ with ⟨x7, rfl, rfl, rfl, H⟩ | hF
            · skip
              show AW cfg 30 g (right (right (right (right (right (left (right (left (right (bodyC cfg.P 30)))))))))) fr h2 _
              rcases iteB_some hm with ⟨hb, hm⟩ | ⟨hb, hm⟩
              · replace H := H.know 18 hb (by kernel_rfl)
                refine aw_true (x := .tmp 18) (by kernel_rfl) H (fun fr => by kernel_rfl) ?_
                refine aw_seq (by kernel_rfl) ?_
                refine aw_reg (id := 10) (n := 9) [(0, []), (1, []), (2, []), (3, []), (4, []), (5, []), (6, []), (7, []), (8, [])] (by kernel_rfl) (by kernel_rfl) ?_
                refine at_seg [(0, [])] [(1, .ptr (some (h.size, 0))), (2, .ptr (some (h1.size, 0))), (21, .ptr (some (h.size, 0)))] H (noU_all rfl) (fun fr => by kernel_rfl) ?_
                intro fr H
                obtain ⟨x8, hx, hm⟩ := bind_some hm
                refine at_step (v := .int .i64 x8) (h1 := h2) [(1, .ptr (some (h.size, 0))), (2, .ptr (some (h1.size, 0))), (22, .int .i64 x8)] H (fun fr => by kernel_rfl) (fun fr => .of (s_ld (by kernel_rfl) (ldI_eq hx))) ?_
                intro fr t H
                refine at_seg [(2, [])] [(1, .ptr (some (h.size, 0))), (2, .ptr (some (h1.size, 0))), (22, .int .i64 x8), (23, .ptr (some (h.size, 1)))] H (noU_all rfl) (fun fr => by kernel_rfl) ?_
                intro fr H
                obtain ⟨x9, hx, hm⟩ := bind_some hm
                refine at_step (v := .int .i64 x9) (h1 := h2) [(1, .ptr (some (h.size, 0))), (2, .ptr (some (h1.size, 0))), (22, .int .i64 x8), (24, .int .i64 x9)] H (fun fr => by kernel_rfl) (fun fr => .of (s_ld (by kernel_rfl) (ldI_eq hx))) ?_
                intro fr t H
                refine at_seg [(4, [])] [(2, .ptr (some (h1.size, 0))), (22, .int .i64 x8), (24, .int .i64 x9), (25, .ptr (some (h.size, 2)))] H (noU_all rfl) (fun fr => by kernel_rfl) ?_
                intro fr H
                obtain ⟨x10, hx, hm⟩ := bind_some hm
                refine at_step (v := .int .i64 x10) (h1 := h2) [(2, .ptr (some (h1.size, 0))), (22, .int .i64 x8), (24, .int .i64 x9), (26, .int .i64 x10)] H (fun fr => by kernel_rfl) (fun fr => .of (s_ld (by kernel_rfl) (ldI_eq hx))) ?_
                intro fr t H
                refine at_seg [(6, [])] [(2, .ptr (some (h1.size, 0))), (27, .agg [.int .i64 x8, .int .i64 x9, .int .i64 x10, .int .i64 (0 : Int), .int .i64 (0 : Int), .int .i64 (0 : Int), .int .u64 (0 : Int), .int .u64 (0 : Int), .int .u64 (0 : Int), .int .u64 (0 : Int)])] H (noU_all rfl) (fun fr => by kernel_rfl) ?_
                intro fr H
                obtain ⟨h5, hx, hm⟩ := bind_some hm
                refine at_step (v := .tuple []) (h1 := h5) [(2, .ptr (some (h1.size, 0)))] H (fun fr => by kernel_rfl) (fun fr => .of (s_stG (by kernel_rfl) hx)) ?_
                intro fr t H
                refine at_seg [(8, [])] [(2, .ptr (some (h1.size, 0))), (3, .bool true)] H (noU_all rfl) (fun fr => by kernel_rfl) ?_
                intro fr H
                refine at_nil ?_
                show AW cfg 30 g (right (left (right (right (right (right (right (left (right (left (right (bodyC cfg.P 30)))))))))))) fr h5 _
                refine aw_ret (by kernel_rfl) ?_
                obtain ⟨x11, hy0, hm⟩ := bind_some hm
                obtain ⟨e1, e2⟩ := inj2 hm
                subst e2
                obtain ⟨u0, v0⟩ := Prod.mk.inj e1
                subst u0
                subst v0
                exact (done_ret H (fun fr => resL_many (.cell (by kernel_rfl) (load_ldA (by kernel_rfl) (by kernel_rfl) hy0) (.tmp (by kernel_rfl) .nil))) rfl : doneQ cfg.P _ _ _ _ fr _)
              · replace H := H.know 18 hb (by kernel_rfl)
                refine aw_false (x := .tmp 18) (by kernel_rfl) H (fun fr => by kernel_rfl) ?_
                refine aw_seq (by kernel_rfl) ?_
                refine aw_reg (id := 11) (n := 2) [(0, []), (1, [])] (by kernel_rfl) (by kernel_rfl) ?_
                refine at_seg [(0, []), (1, [])] [(1, .ptr (some (h.size, 0))), (2, .ptr (some (h1.size, 0))), (5, .int .i64 x1), (28, .bool (x1 == (4 : Int)))] H (noU_all rfl) (fun fr => by kernel_rfl) ?_
                intro fr H
                refine at_nil ?_
                show AW cfg 30 g (right (right (right (right (right (right (right (left (right (left (right (bodyC cfg.P 30)))))))))))) fr h2 _
                rcases iteB_some hm with ⟨hb, hm⟩ | ⟨hb, hm⟩
                · replace H := H.know 28 hb (by kernel_rfl)
                  refine aw_true (x := .tmp 28) (by kernel_rfl) H (fun fr => by kernel_rfl) ?_
                  refine aw_seq (by kernel_rfl) ?_
                  refine aw_reg (id := 12) (n := 9) [(0, []), (1, []), (2, []), (3, []), (4, []), (5, []), (6, []), (7, []), (8, [])] (by kernel_rfl) (by kernel_rfl) ?_
                  refine at_seg [(0, [])] [(1, .ptr (some (h.size, 0))), (2, .ptr (some (h1.size, 0))), (30, .ptr (some (h.size, 1)))] H (noU_all rfl) (fun fr => by kernel_rfl) ?_
                  intro fr H
                  obtain ⟨x12, hx, hm⟩ := bind_some hm
                  refine at_step (v := .int .i64 x12) (h1 := h2) [(1, .ptr (some (h.size, 0))), (2, .ptr (some (h1.size, 0))), (31, .int .i64 x12)] H (fun fr => by kernel_rfl) (fun fr => .of (s_ld (by kernel_rfl) (ldI_eq hx))) ?_
                  intro fr t H
                  refine at_seg [(2, [])] [(1, .ptr (some (h.size, 0))), (2, .ptr (some (h1.size, 0))), (31, .int .i64 x12), (32, .ptr (some (h.size, 3)))] H (noU_all rfl) (fun fr => by kernel_rfl) ?_
                  intro fr H
                  obtain ⟨x13, hx, hm⟩ := bind_some hm
                  refine at_step (v := .int .i64 x13) (h1 := h2) [(1, .ptr (some (h.size, 0))), (2, .ptr (some (h1.size, 0))), (31, .int .i64 x12), (33, .int .i64 x13)] H (fun fr => by kernel_rfl) (fun fr => .of (s_ld (by kernel_rfl) (ldI_eq hx))) ?_
                  intro fr t H
                  refine at_seg [(4, [])] [(2, .ptr (some (h1.size, 0))), (31, .int .i64 x12), (33, .int .i64 x13), (34, .ptr (some (h.size, 4)))] H (noU_all rfl) (fun fr => by kernel_rfl) ?_
                  intro fr H
                  obtain ⟨x14, hx, hm⟩ := bind_some hm
                  refine at_step (v := .int .i64 x14) (h1 := h2) [(2, .ptr (some (h1.size, 0))), (31, .int .i64 x12), (33, .int .i64 x13), (35, .int .i64 x14)] H (fun fr => by kernel_rfl) (fun fr => .of (s_ld (by kernel_rfl) (ldI_eq hx))) ?_
                  intro fr t H
                  refine at_seg [(6, [])] [(2, .ptr (some (h1.size, 0))), (36, .agg [.int .i64 (4 : Int), .int .i64 x12, .int .i64 (0 : Int), .int .i64 x13, .int .i64 x14, .int .i64 (0 : Int), .int .u64 (0 : Int), .int .u64 (0 : Int), .int .u64 (0 : Int), .int .u64 (0 : Int)])] H (noU_all rfl) (fun fr => by kernel_rfl) ?_
                  intro fr H
                  obtain ⟨h6, hx, hm⟩ := bind_some hm
                  refine at_step (v := .tuple []) (h1 := h6) [(2, .ptr (some (h1.size, 0)))] H (fun fr => by kernel_rfl) (fun fr => .of (s_stG (by kernel_rfl) hx)) ?_
                  intro fr t H
                  refine at_seg [(8, [])] [(2, .ptr (some (h1.size, 0))), (3, .bool true)] H (noU_all rfl) (fun fr => by kernel_rfl) ?_
                  intro fr H
                  refine at_nil ?_
                  show AW cfg 30 g (right (left (right (right (right (right (right (right (right (left (right (left (right (bodyC cfg.P 30)))))))))))))) fr h6 _
                  refine aw_ret (by kernel_rfl) ?_
                  obtain ⟨x15, hy0, hm⟩ := bind_some hm
                  obtain ⟨e1, e2⟩ := inj2 hm
                  subst e2
                  obtain ⟨u0, v0⟩ := Prod.mk.inj e1
                  subst u0
                  subst v0
                  exact (done_ret H (fun fr => resL_many (.cell (by kernel_rfl) (load_ldA (by kernel_rfl) (by kernel_rfl) hy0) (.tmp (by kernel_rfl) .nil))) rfl : doneQ cfg.P _ _ _ _ fr _)
                · replace H := H.know 28 hb (by kernel_rfl)
                  refine aw_false (x := .tmp 28) (by kernel_rfl) H (fun fr => by kernel_rfl) ?_
                  refine aw_seq (by kernel_rfl) ?_
                  refine aw_reg (id := 13) (n := 2) [(0, []), (1, [])] (by kernel_rfl) (by kernel_rfl) ?_
                  refine at_seg [(0, []), (1, [])] [(1, .ptr (some (h.size, 0))), (2, .ptr (some (h1.size, 0))), (37, .bool (x1 == (5 : Int)))] H (noU_all rfl) (fun fr => by kernel_rfl) ?_
                  intro fr H
                  refine at_nil ?_
                  show AW cfg 30 g (right (right (right (right (right (right (right (right (right (left (right (left (right (bodyC cfg.P 30)))))))))))))) fr h2 _
                  rcases iteB_some hm with ⟨hb, hm⟩ | ⟨hb, hm⟩
                  · replace H := H.know 37 hb (by kernel_rfl)
                    refine aw_true (x := .tmp 37) (by kernel_rfl) H (fun fr => by kernel_rfl) ?_
                    refine aw_seq (by kernel_rfl) ?_
                    refine aw_reg (id := 14) (n := 7) [(0, []), (1, []), (2, []), (3, []), (4, []), (5, []), (6, [])] (by kernel_rfl) (by kernel_rfl) ?_
                    refine at_seg [(0, [])] [(1, .ptr (some (h.size, 0))), (2, .ptr (some (h1.size, 0))), (39, .ptr (some (h.size, 1)))] H (noU_all rfl) (fun fr => by kernel_rfl) ?_
                    intro fr H
                    obtain ⟨x16, hx, hm⟩ := bind_some hm
                    refine at_step (v := .int .i64 x16) (h1 := h2) [(1, .ptr (some (h.size, 0))), (2, .ptr (some (h1.size, 0))), (40, .int .i64 x16)] H (fun fr => by kernel_rfl) (fun fr => .of (s_ld (by kernel_rfl) (ldI_eq hx))) ?_
                    intro fr t H
                    refine at_seg [(2, [])] [(2, .ptr (some (h1.size, 0))), (40, .int .i64 x16), (41, .ptr (some (h.size, 5)))] H (noU_all rfl) (fun fr => by kernel_rfl) ?_
                    intro fr H
                    obtain ⟨x17, hx, hm⟩ := bind_some hm
                    refine at_step (v := .int .i64 x17) (h1 := h2) [(2, .ptr (some (h1.size, 0))), (40, .int .i64 x16), (42, .int .i64 x17)] H (fun fr => by kernel_rfl) (fun fr => .of (s_ld (by kernel_rfl) (ldI_eq hx))) ?_
                    intro fr t H
                    refine at_seg [(4, [])] [(2, .ptr (some (h1.size, 0))), (43, .agg [.int .i64 (5 : Int), .int .i64 x16, .int .i64 (0 : Int), .int .i64 (0 : Int), .int .i64 (0 : Int), .int .i64 x17, .int .u64 (0 : Int), .int .u64 (0 : Int), .int .u64 (0 : Int), .int .u64 (0 : Int)])] H (noU_all rfl) (fun fr => by kernel_rfl) ?_
                    intro fr H
                    obtain ⟨h7, hx, hm⟩ := bind_some hm
                    refine at_step (v := .tuple []) (h1 := h7) [(2, .ptr (some (h1.size, 0)))] H (fun fr => by kernel_rfl) (fun fr => .of (s_stG (by kernel_rfl) hx)) ?_
                    intro fr t H
                    refine at_seg [(6, [])] [(2, .ptr (some (h1.size, 0))), (3, .bool true)] H (noU_all rfl) (fun fr => by kernel_rfl) ?_
                    intro fr H
                    refine at_nil ?_
                    show AW cfg 30 g (right (left (right (right (right (right (right (right (right (right (right (left (right (left (right (bodyC cfg.P 30)))))))))))))))) fr h7 _
                    refine aw_ret (by kernel_rfl) ?_
                    obtain ⟨x18, hy0, hm⟩ := bind_some hm
                    obtain ⟨e1, e2⟩ := inj2 hm
                    subst e2
                    obtain ⟨u0, v0⟩ := Prod.mk.inj e1
                    subst u0
                    subst v0
                    exact (done_ret H (fun fr => resL_many (.cell (by kernel_rfl) (load_ldA (by kernel_rfl) (by kernel_rfl) hy0) (.tmp (by kernel_rfl) .nil))) rfl : doneQ cfg.P _ _ _ _ fr _)
                  · replace H := H.know 37 hb (by kernel_rfl)
                    refine aw_false (x := .tmp 37) (by kernel_rfl) H (fun fr => by kernel_rfl) ?_
                    refine aw_skip (by kernel_rfl) ?_
                    show AW cfg 30 g (right (right (bodyC cfg.P 30))) fr h2 _
                    refine aw_seq (by kernel_rfl) ?_
                    refine aw_reg (id := 15) (n := 3) [(0, []), (1, []), (2, [])] (by kernel_rfl) (by kernel_rfl) ?_
                    refine at_seg [(0, [])] [(2, .ptr (some (h1.size, 0))), (44, .agg [.int .i64 (0 : Int), .int .i64 (0 : Int), .int .i64 (0 : Int), .int .i64 (0 : Int), .int .i64 (0 : Int), .int .i64 (0 : Int), .int .u64 (0 : Int), .int .u64 (0 : Int), .int .u64 (0 : Int), .int .u64 (0 : Int)])] H (noU_all rfl) (fun fr => by kernel_rfl) ?_
                    intro fr H
                    obtain ⟨h8, hx, hm⟩ := bind_some hm
                    refine at_step (v := .tuple []) (h1 := h8) [(2, .ptr (some (h1.size, 0)))] H (fun fr => by kernel_rfl) (fun fr => .of (s_stG (by kernel_rfl) hx)) ?_
                    intro fr t H
                    refine at_seg [(2, [])] [(2, .ptr (some (h1.size, 0))), (3, .bool false)] H (noU_all rfl) (fun fr => by kernel_rfl) ?_
                    intro fr H
                    refine at_nil ?_
                    show AW cfg 30 g (right (right (right (bodyC cfg.P 30)))) fr h8 _
                    refine aw_ret (by kernel_rfl) ?_
                    obtain ⟨x19, hy0, hm⟩ := bind_some hm
                    obtain ⟨e1, e2⟩ := inj2 hm
                    subst e2
                    obtain ⟨u0, v0⟩ := Prod.mk.inj e1
                    subst u0
                    subst v0
                    exact (done_ret H (fun fr => resL_many (.cell (by kernel_rfl) (load_ldA (by kernel_rfl) (by kernel_rfl) hy0) (.tmp (by kernel_rfl) .nil))) rfl : doneQ cfg.P _ _ _ _ fr _)
            · exact hF.elim
    · exact hF.elim
/-! ### boulter/tree.may$1 -/
noncomputable def M_tree_may_1_s0 (h : AHeap) (p0 : Int) (p1 : Nat × Nat) : Option (Bool) :=
 (iteB (decide (p0 ≥ (0 : Int))) ((ldI h (p1.1, p1.2) .i64).bind fun x2 => some (decide (p0 < x2))) (some false) : Option (Bool)).bind fun x1 => some x1
theorem ok_tree_may_1_s0 {g : Gd} {h : AHeap} {p0 : Int} {p1 : Nat × Nat} {r0 : Bool} (hm : M_tree_may_1_s0 h p0 p1 = some r0) : Runs cfg g h 31 [.int .i64 p0, .ptr (some (p1.1, p1.2))] (.bool r0) h := by
  refine runs2E (by kernel_rfl) (by kernel_rfl) (body_ofE (n := 11) (rs := [.tmp 3]) (by kernel_rfl) ?_)
  unfold M_tree_may_1_s0 at hm
  refine start (n := 11) [(0, .int .i64 p0), (1, .ptr (some (p1.1, p1.2)))] (by kernel_rfl) (by kernel_rfl) ?_
  intro fr H
  refine aw_seq (by kernel_rfl) ?_
  refine aw_reg (id := 0) (n := 1) [(0, [])] (by kernel_rfl) (by kernel_rfl) ?_
  refine at_seg [(0, [])] [(0, .int .i64 p0), (1, .ptr (some (p1.1, p1.2)))] H (noU_all rfl) (fun fr => by kernel_rfl) ?_
  intro fr H
  refine at_nil ?_
  show AW cfg 31 (⟨h.size, []⟩ : Gd) (right (bodyC cfg.P 31)) fr h _
  refine aw_seq (by kernel_rfl) ?_
  refine aw_reg (id := 1) (n := 8) [(0, []), (1, []), (2, []), (3, []), (4, []), (5, []), (6, []), (7, [])] (by kernel_rfl) (by kernel_rfl) ?_
  refine at_seg [(0, []), (1, []), (2, [])] [(0, .int .i64 p0), (1, .ptr (some (p1.1, p1.2))), (6, .bool (decide (p0 ≥ (0 : Int))))] H (noU_all rfl) (fun fr => by kernel_rfl) ?_
  intro fr H
  obtain ⟨x1, ho, hm⟩ := bind_some hm
  refine at_cut [(3, []), (4, []), (5, []), (6, [])] (fun fr' h' => h = h' ∧ Has fr' 11 [(10, .bool x1)]) ?_ ?_
  · rcases iteB_some ho with ⟨hb, hm⟩ | ⟨hb, hm⟩
    · replace H := H.know 6 hb (by kernel_rfl)
      refine at_seg [(3, [])] [(1, .ptr (some (p1.1, p1.2))), (6, .bool true), (7, .int .i64 p0)] H (noU_all rfl) (fun fr => by kernel_rfl) ?_
      intro fr H
      obtain ⟨x2, hx, hm⟩ := bind_some hm
      refine at_step (v := .int .i64 x2) (h1 := h) [(6, .bool true), (7, .int .i64 p0), (8, .int .i64 x2)] H (fun fr => by kernel_rfl) (fun fr => .of (s_ld (by kernel_rfl) (ldI_eq hx))) ?_
      intro fr t H
      refine at_seg [(5, []), (6, [])] [(10, .bool (decide (p0 < x2)))] H (noU_all rfl) (fun fr => by kernel_rfl) ?_
      intro fr H
      have e1 := Option.some.inj hm
      subst e1
      exact at_nil ⟨rfl, H.less _ (fun fr => by kernel_rfl)⟩
    · replace H := H.know 6 hb (by kernel_rfl)
      refine at_seg [(3, []), (4, []), (5, []), (6, [])] [(10, .bool false)] H (noU_all rfl) (fun fr => by kernel_rfl) ?_
      intro fr H
      have e1 := Option.some.inj hm
      subst e1
      exact at_nil ⟨rfl, H.less _ (fun fr => by kernel_rfl)⟩
  · intro t fr h' hK
    obtain ⟨e, H⟩ := hK
    subst e
    refine at_seg [(7, [])] [(3, .bool x1)] H (noU_all rfl) (fun fr => by kernel_rfl) ?_
    intro fr H
    refine at_nil ?_
    show AW cfg 31 (⟨h.size, []⟩ : Gd) (right (right (bodyC cfg.P 31))) fr h _
    refine aw_ret (by kernel_rfl) ?_
    have e1 := Option.some.inj hm
    subst e1
    exact (doneE_of .ret H (fun fr => by kernel_rfl) (.inl rfl) : doneE cfg.P _ _ _ fr _)
/-! ### boulter/tree.may -/
noncomputable def M_tree_may (h : AHeap) (p0 : List AVal) (p1 : Int) : Option (Bool) :=
 need (p0.all AVal.one) <| (some (h.push (.cells none 2 p0))).bind fun h1 => (some (h1.push (.cells none 2 [.int .i64 p1]))).bind fun h2 => (ldA h2 (h.size, 0) 10).bind fun x1 => (M_tree_bare (⟨h.size, []⟩ : Gd) h2 x1).bind fun ((x2, x3), h3) => (some (h3.push (.cells none 2 [.int .i64 (0 : Int), .int .i64 (0 : Int), .int .i64 (0 : Int), .int .i64 (0 : Int), .int .i64 (0 : Int), .int .i64 (0 : Int), .int .u64 (0 : Int), .int .u64 (0 : Int), .int .u64 (0 : Int), .int .u64 (0 : Int)]))).bind fun h4 => (stG 10 (⟨h.size, []⟩ : Gd) h4 (h3.size, 0) x2).bind fun h5 => (iteB (!x3) (some true) ((ldA h5 (h3.size, 0) 10).bind fun x5 => (ldA h5 (h.size, 0) 10).bind fun x6 => (eqG cfg.P 30 x5 x6).bind fun x7 => some (!x7)) : Option (Bool)).bind fun x4 => iteB x4 (some false) ((ldI h5 (h.size, 0) .i64).bind fun x8 => (iteB (x8 == (2 : Int)) (some true) (some (x8 == (3 : Int))) : Option ((Bool))).bind fun x9 => iteB x9 ((ldI h5 (h.size, 1) .i64).bind fun x10 => (M_tree_may_1_s0 h5 x10 (h1.size, 0)).bind fun x11 => (iteB x11 ((ldI h5 (h.size, 2) .i64).bind fun x13 => (M_tree_may_1_s0 h5 x13 (h1.size, 0)).bind fun x14 => some (x14, h5)) (some (false, h5)) : Option (Bool × AHeap)).bind fun (x12, h6) => some x12) (iteB (x8 == (4 : Int)) ((ldI h5 (h.size, 1) .i64).bind fun x15 => (M_tree_may_1_s0 h5 x15 (h1.size, 0)).bind fun x16 => (iteB x16 ((ldI h5 (h.size, 3) .i64).bind fun x18 => some (decide (x18 ≥ (0 : Int)))) (some false) : Option (Bool)).bind fun x17 => (iteB x17 ((ldI h5 (h.size, 3) .i64).bind fun x20 => some (decide (x20 ≤ (255 : Int)))) (some false) : Option (Bool)).bind fun x19 => (iteB x19 ((ldI h5 (h.size, 4) .i64).bind fun x22 => (iteB (x22 == (-1 : Int)) (some true) ((ldI h5 (h.size, 4) .i64).bind fun x24 => (ldI h5 (h.size, 3) .i64).bind fun x25 => (iteB (decide (x24 ≥ x25)) ((ldI h5 (h.size, 4) .i64).bind fun x27 => some (decide (x27 ≤ (255 : Int)))) (some false) : Option (Bool)).bind fun x26 => some x26) : Option (Bool)).bind fun x23 => some x23) (some false) : Option (Bool)).bind fun x21 => some x21) (iteB (x8 == (5 : Int)) ((ldI h5 (h.size, 1) .i64).bind fun x28 => (M_tree_may_1_s0 h5 x28 (h1.size, 0)).bind fun x29 => (iteB x29 ((ldI h5 (h.size, 5) .i64).bind fun x31 => some (decide (x31 ≥ (1 : Int)))) (some false) : Option (Bool)).bind fun x30 => (iteB x30 ((ldI h5 (h.size, 5) .i64).bind fun x33 => some (decide (x33 ≤ (1024 : Int)))) (some false) : Option (Bool)).bind fun x32 => some x32) (some true))))
theorem ok_tree_may {g : Gd} {h : AHeap} {p0 : List AVal} {p1 : Int} {r0 : Bool} (hm : M_tree_may h p0 p1 = some r0) : Runs cfg g h 21 [.agg p0, .int .i64 p1] (.bool r0) h := by
  refine runs2E (by kernel_rfl) (by kernel_rfl) (body_ofE (n := 85) (rs := [.tmp 4]) (by kernel_rfl) ?_)
  unfold M_tree_may at hm
  refine start (n := 85) [(0, .agg p0), (1, .int .i64 p1)] (by kernel_rfl) (by kernel_rfl) ?_
  intro fr H
  refine aw_seq (by kernel_rfl) ?_
  refine aw_reg (id := 0) (n := 3) [(0, []), (1, []), (2, [])] (by kernel_rfl) (by kernel_rfl) ?_
  obtain ⟨hb, hm⟩ := need_some hm
  obtain ⟨h1, hx, hm⟩ := bind_some hm
  refine at_step (v := .ptr (some (h.size, 0))) (h1 := h1) [(1, .int .i64 p1), (2, .ptr (some (h.size, 0)))] H (fun fr => by kernel_rfl) (fun fr => .of (s_boxG (by kernel_rfl) hb hx)) ?_
  intro fr t H
  obtain ⟨h2, hx, hm⟩ := bind_some hm
  refine at_step (v := .ptr (some (h1.size, 0))) (h1 := h2) [(2, .ptr (some (h.size, 0))), (3, .ptr (some (h1.size, 0)))] H (fun fr => by kernel_rfl) (fun fr => .of (s_n' (by kernel_rfl) hx)) ?_
  intro fr t H
  refine at_seg [(2, [])] [(2, .ptr (some (h.size, 0))), (3, .ptr (some (h1.size, 0)))] H (noU_all rfl) (fun fr => by kernel_rfl) ?_
  intro fr H
  refine at_nil ?_
  show AW cfg 21 (⟨h.size, []⟩ : Gd) (right (bodyC cfg.P 21)) fr h2 _
  refine aw_seq (by kernel_rfl) ?_
  refine aw_seq (by kernel_rfl) ?_
  refine aw_reg (id := 1) (n := 8) [(0, []), (1, []), (2, []), (3, []), (4, []), (5, []), (6, []), (7, [])] (by kernel_rfl) (by kernel_rfl) ?_
  obtain ⟨x1, hx, hm⟩ := bind_some hm
  refine at_step (v := .agg x1) (h1 := h2) [(2, .ptr (some (h.size, 0))), (3, .ptr (some (h1.size, 0))), (9, .agg x1)] H (fun fr => by kernel_rfl) (fun fr => .of (s_ldA (by kernel_rfl) hx)) ?_
  intro fr t H
  obtain ⟨⟨⟨x2, x3⟩, h3⟩, hx, hm⟩ := bind_some hm
  refine at_step (v := .tuple [.agg x2, .bool x3]) (h1 := h3) [(2, .ptr (some (h.size, 0))), (3, .ptr (some (h1.size, 0))), (10, .tuple [.agg x2, .bool x3])] H (fun fr => by kernel_rfl) (fun fr => Steps.call (by kernel_rfl) (ok_tree_bare hx)) ?_
  intro fr t H
  refine at_seg [(2, []), (3, []), (4, [])] [(2, .ptr (some (h.size, 0))), (3, .ptr (some (h1.size, 0))), (11, .agg x2), (12, .bool x3)] H (noU_all rfl) (fun fr => by kernel_rfl) ?_
  intro fr H
  obtain ⟨h4, hx, hm⟩ := bind_some hm
  refine at_step (v := .ptr (some (h3.size, 0))) (h1 := h4) [(2, .ptr (some (h.size, 0))), (3, .ptr (some (h1.size, 0))), (5, .ptr (some (h3.size, 0))), (11, .agg x2), (12, .bool x3)] H (fun fr => by kernel_rfl) (fun fr => .of (s_n' (by kernel_rfl) hx)) ?_
  intro fr t H
  obtain ⟨h5, hx, hm⟩ := bind_some hm
  refine at_step (v := .tuple []) (h1 := h5) [(2, .ptr (some (h.size, 0))), (3, .ptr (some (h1.size, 0))), (5, .ptr (some (h3.size, 0))), (12, .bool x3)] H (fun fr => by kernel_rfl) (fun fr => .of (s_stG (by kernel_rfl) hx)) ?_
  intro fr t H
  refine at_seg [(7, [])] [(2, .ptr (some (h.size, 0))), (3, .ptr (some (h1.size, 0))), (5, .ptr (some (h3.size, 0))), (6, .bool x3)] H (noU_all rfl) (fun fr => by kernel_rfl) ?_
  intro fr H
  refine at_nil ?_
  show AW cfg 21 (⟨h.size, []⟩ : Gd) (right (left (right (bodyC cfg.P 21)))) fr h5 _
  refine aw_seq (by kernel_rfl) ?_
  refine aw_reg (id := 2) (n := 7) [(0, []), (1, []), (2, []), (3, []), (4, []), (5, []), (6, [])] (by kernel_rfl) (by kernel_rfl) ?_
  refine at_seg [(0, []), (1, []), (2, [])] [(2, .ptr (some (h.size, 0))), (3, .ptr (some (h1.size, 0))), (5, .ptr (some (h3.size, 0))), (15, .bool (!x3))] H (noU_all rfl) (fun fr => by kernel_rfl) ?_
  intro fr H
  obtain ⟨x4, ho, hm⟩ := bind_some hm
  refine at_cut [(3, []), (4, []), (5, []), (6, [])] (fun fr' h' => h5 = h' ∧ Has fr' 85 [(2, .ptr (some (h.size, 0))), (3, .ptr (some (h1.size, 0))), (19, .bool x4)]) ?_ ?_
  · rcases iteB_some ho with ⟨hb, hm⟩ | ⟨hb, hm⟩
    · replace H := H.know 15 hb (by kernel_rfl)
      refine at_seg [(3, []), (4, []), (5, []), (6, [])] [(2, .ptr (some (h.size, 0))), (3, .ptr (some (h1.size, 0))), (19, .bool true)] H (noU_all rfl) (fun fr => by kernel_rfl) ?_
      intro fr H
      have e1 := Option.some.inj hm
      subst e1
      exact at_nil ⟨rfl, H.less _ (fun fr => by kernel_rfl)⟩
    · replace H := H.know 15 hb (by kernel_rfl)
      obtain ⟨x5, hx, hm⟩ := bind_some hm
      refine at_step (v := .agg x5) (h1 := h5) [(2, .ptr (some (h.size, 0))), (3, .ptr (some (h1.size, 0))), (15, .bool false), (16, .agg x5)] H (fun fr => by kernel_rfl) (fun fr => .of (s_ldA (by kernel_rfl) hx)) ?_
      intro fr t H
      obtain ⟨x6, hx, hm⟩ := bind_some hm
      refine at_step (v := .agg x6) (h1 := h5) [(2, .ptr (some (h.size, 0))), (3, .ptr (some (h1.size, 0))), (15, .bool false), (16, .agg x5), (17, .agg x6)] H (fun fr => by kernel_rfl) (fun fr => .of (s_ldA (by kernel_rfl) hx)) ?_
      intro fr t H
      obtain ⟨x7, hx, hm⟩ := bind_some hm
      refine at_step (v := .bool (!x7)) (h1 := h5) [(2, .ptr (some (h.size, 0))), (3, .ptr (some (h1.size, 0))), (15, .bool false), (18, .bool (!x7))] H (fun fr => by kernel_rfl) (fun fr => .of (s_neG (by kernel_rfl) hx)) ?_
      intro fr t H
      refine at_seg [(6, [])] [(2, .ptr (some (h.size, 0))), (3, .ptr (some (h1.size, 0))), (19, .bool (!x7))] H (noU_all rfl) (fun fr => by kernel_rfl) ?_
      intro fr H
      have e1 := Option.some.inj hm
      subst e1
      exact at_nil ⟨rfl, H.less _ (fun fr => by kernel_rfl)⟩
  · intro t fr h' hK
    obtain ⟨e, H⟩ := hK
    subst e
    refine at_nil ?_
    show AW cfg 21 (⟨h.size, []⟩ : Gd) (right (right (left (right (bodyC cfg.P 21))))) fr h5 _
    rcases iteB_some hm with ⟨hb, hm⟩ | ⟨hb, hm⟩
    · replace H := H.know 19 hb (by kernel_rfl)
      refine aw_true (x := .tmp 19) (by kernel_rfl) H (fun fr => by kernel_rfl) ?_
      refine aw_seq (by kernel_rfl) ?_
      refine aw_reg (id := 3) (n := 1) [(0, [])] (by kernel_rfl) (by kernel_rfl) ?_
      refine at_seg [(0, [])] [(4, .bool false)] H (noU_all rfl) (fun fr => by kernel_rfl) ?_
      intro fr H
      refine at_nil ?_
      show AW cfg 21 (⟨h.size, []⟩ : Gd) (right (left (right (right (left (right (bodyC cfg.P 21))))))) fr h5 _
      refine aw_ret (by kernel_rfl) ?_
      have e1 := Option.some.inj hm
      subst e1
      exact (doneE_of .ret H (fun fr => by kernel_rfl) (.inl rfl) : doneE cfg.P _ _ _ fr _)
    · replace H := H.know 19 hb (by kernel_rfl)
      refine aw_false (x := .tmp 19) (by kernel_rfl) H (fun fr => by kernel_rfl) ?_
      refine aw_skip (by kernel_rfl) ?_
      show AW cfg 21 (⟨h.size, []⟩ : Gd) (right (right (bodyC cfg.P 21))) fr h5 _
      refine aw_seq (by kernel_rfl) ?_
      refine aw_reg (id := 4) (n := 2) [(0, []), (1, [])] (by kernel_rfl) (by kernel_rfl) ?_
      refine at_seg [(0, []), (1, [])] [(2, .ptr (some (h.size, 0))), (7, .func (.func 31) [] [.ptr (some (h1.size, 0))])] H (noU_all rfl) (fun fr => by kernel_rfl) ?_
      intro fr H
      refine at_nil ?_
      show AW cfg 21 (⟨h.size, []⟩ : Gd) (right (right (right (bodyC cfg.P 21)))) fr h5 _
      refine aw_seq (by kernel_rfl) ?_
      refine aw_seq (by kernel_rfl) ?_
      refine aw_reg (id := 5) (n := 2) [(0, []), (1, [])] (by kernel_rfl) (by kernel_rfl) ?_
      refine at_seg [(0, [])] [(2, .ptr (some (h.size, 0))), (7, .func (.func 31) [] [.ptr (some (h1.size, 0))]), (21, .ptr (some (h.size, 0)))] H (noU_all rfl) (fun fr => by kernel_rfl) ?_
      intro fr H
      obtain ⟨x8, hx, hm⟩ := bind_some hm
      refine at_step (v := .int .i64 x8) (h1 := h5) [(2, .ptr (some (h.size, 0))), (7, .func (.func 31) [] [.ptr (some (h1.size, 0))]), (22, .int .i64 x8)] H (fun fr => by kernel_rfl) (fun fr => .of (s_ld (by kernel_rfl) (ldI_eq hx))) ?_
      intro fr t H
      refine at_nil ?_
      show AW cfg 21 (⟨h.size, []⟩ : Gd) (right (left (right (right (right (bodyC cfg.P 21)))))) fr h5 _
      refine aw_block (id := 0) (by kernel_rfl) ?_
      refine aw_seq (by kernel_rfl) ?_
      obtain ⟨o1, ho, hm⟩ := bind_some hm
      refine aw_mono (Q' := fun e fr' h' => (∃ (x9 : Bool), e = .normal ∧ x9 = o1 ∧ h5 = h' ∧ Has fr' 85 [(2, .ptr (some (h.size, 0))), (7, .func (.func 31) [] [.ptr (some (h1.size, 0))]), (22, .int .i64 x8), (23, .bool x9)]) ∨ False) ?_ ?_
      · replace hm := ho
        clear ho
        refine aw_seq (by kernel_rfl) ?_
        refine aw_reg (id := 6) (n := 2) [(0, []), (1, [])] (by kernel_rfl) (by kernel_rfl) ?_
        refine at_seg [(0, []), (1, [])] [(2, .ptr (some (h.size, 0))), (7, .func (.func 31) [] [.ptr (some (h1.size, 0))]), (22, .int .i64 x8), (23, .bool (x8 == (2 : Int)))] H (noU_all rfl) (fun fr => by kernel_rfl) ?_
        intro fr H
        refine at_nil ?_
        show AW cfg 21 (⟨h.size, []⟩ : Gd) (right (left (left (right (left (right (right (right (bodyC cfg.P 21))))))))) fr h5 _
        rcases iteB_some hm with ⟨hb, hm⟩ | ⟨hb, hm⟩
        · replace H := H.know 23 hb (by kernel_rfl)
          refine aw_true (x := .tmp 23) (by kernel_rfl) H (fun fr => by kernel_rfl) ?_
          refine aw_skip (by kernel_rfl) ?_
          exact Or.inl ⟨true, rfl, Option.some.inj hm, rfl, H.less _ (fun fr => by kernel_rfl)⟩
        · replace H := H.know 23 hb (by kernel_rfl)
          refine aw_false (x := .tmp 23) (by kernel_rfl) H (fun fr => by kernel_rfl) ?_
          refine aw_reg (id := 7) (n := 2) [(0, []), (1, [])] (by kernel_rfl) (by kernel_rfl) ?_
          refine at_seg [(0, []), (1, [])] [(2, .ptr (some (h.size, 0))), (7, .func (.func 31) [] [.ptr (some (h1.size, 0))]), (22, .int .i64 x8), (23, .bool (x8 == (3 : Int)))] H (noU_all rfl) (fun fr => by kernel_rfl) ?_
          intro fr H
          refine at_nil ?_
          exact Or.inl ⟨x8 == (3 : Int), rfl, Option.some.inj hm, rfl, H.less _ (fun fr => by kernel_rfl)⟩
      · clear ho
        intro e fr hz hQ
        rcases hQ with ⟨x9, rfl, rfl, rfl, H⟩ | hF
        · skip
          show AW cfg 21 (⟨h.size, []⟩ : Gd) (right (left (right (left (right (right (right (bodyC cfg.P 21)))))))) fr h5 _
          rcases iteB_some hm with ⟨hb, hm⟩ | ⟨hb, hm⟩
          · replace H := H.know 23 hb (by kernel_rfl)
            refine aw_true (x := .tmp 23) (by kernel_rfl) H (fun fr => by kernel_rfl) ?_
            refine aw_seq (by kernel_rfl) ?_
            refine aw_reg (id := 8) (n := 11) [(0, []), (1, []), (2, []), (3, []), (4, []), (5, []), (6, []), (7, []), (8, []), (9, []), (10, [])] (by kernel_rfl) (by kernel_rfl) ?_
            refine at_seg [(0, []), (1, [])] [(2, .ptr (some (h.size, 0))), (7, .func (.func 31) [] [.ptr (some (h1.size, 0))]), (26, .func (.func 31) [] [.ptr (some (h1.size, 0))]), (27, .ptr (some (h.size, 1)))] H (noU_all rfl) (fun fr => by kernel_rfl) ?_
            intro fr H
            obtain ⟨x10, hx, hm⟩ := bind_some hm
            refine at_step (v := .int .i64 x10) (h1 := h5) [(2, .ptr (some (h.size, 0))), (7, .func (.func 31) [] [.ptr (some (h1.size, 0))]), (26, .func (.func 31) [] [.ptr (some (h1.size, 0))]), (28, .int .i64 x10)] H (fun fr => by kernel_rfl) (fun fr => .of (s_ld (by kernel_rfl) (ldI_eq hx))) ?_
            intro fr t H
            obtain ⟨x11, hx, hm⟩ := bind_some hm
            refine at_step (v := .bool x11) (h1 := h5) [(2, .ptr (some (h.size, 0))), (7, .func (.func 31) [] [.ptr (some (h1.size, 0))]), (29, .bool x11)] H (fun fr => by kernel_rfl) (fun fr => Steps.call (by kernel_rfl) (ok_tree_may_1_s0 hx)) ?_
            intro fr t H
            refine at_seg [(4, [])] [(2, .ptr (some (h.size, 0))), (7, .func (.func 31) [] [.ptr (some (h1.size, 0))]), (30, .bool x11)] H (noU_all rfl) (fun fr => by kernel_rfl) ?_
            intro fr H
            obtain ⟨⟨x12, h6⟩, ho, hm⟩ := bind_some hm
            refine at_cut [(5, []), (6, []), (7, []), (8, []), (9, [])] (fun fr' h' => h6 = h' ∧ Has fr' 85 [(35, .bool x12)]) ?_ ?_
            · rcases iteB_some ho with ⟨hb, hm⟩ | ⟨hb, hm⟩
              · replace H := H.know 30 hb (by kernel_rfl)
                refine at_seg [(5, []), (6, [])] [(30, .bool true), (31, .func (.func 31) [] [.ptr (some (h1.size, 0))]), (32, .ptr (some (h.size, 2)))] H (noU_all rfl) (fun fr => by kernel_rfl) ?_
                intro fr H
                obtain ⟨x13, hx, hm⟩ := bind_some hm
                refine at_step (v := .int .i64 x13) (h1 := h5) [(30, .bool true), (31, .func (.func 31) [] [.ptr (some (h1.size, 0))]), (33, .int .i64 x13)] H (fun fr => by kernel_rfl) (fun fr => .of (s_ld (by kernel_rfl) (ldI_eq hx))) ?_
                intro fr t H
                obtain ⟨x14, hx, hm⟩ := bind_some hm
                refine at_step (v := .bool x14) (h1 := h5) [(30, .bool true), (34, .bool x14)] H (fun fr => by kernel_rfl) (fun fr => Steps.call (by kernel_rfl) (ok_tree_may_1_s0 hx)) ?_
                intro fr t H
                refine at_seg [(9, [])] [(35, .bool x14)] H (noU_all rfl) (fun fr => by kernel_rfl) ?_
                intro fr H
                have e0 := Option.some.inj hm
                obtain ⟨e1, f1⟩ := Prod.mk.inj e0
                subst e1
                subst f1
                exact at_nil ⟨rfl, H.less _ (fun fr => by kernel_rfl)⟩
              · replace H := H.know 30 hb (by kernel_rfl)
                refine at_seg [(5, []), (6, []), (7, []), (8, []), (9, [])] [(35, .bool false)] H (noU_all rfl) (fun fr => by kernel_rfl) ?_
                intro fr H
                have e0 := Option.some.inj hm
                obtain ⟨e1, f1⟩ := Prod.mk.inj e0
                subst e1
                subst f1
                exact at_nil ⟨rfl, H.less _ (fun fr => by kernel_rfl)⟩
            · intro t fr h' hK
              obtain ⟨e, H⟩ := hK
              subst e
              refine at_seg [(10, [])] [(4, .bool x12)] H (noU_all rfl) (fun fr => by kernel_rfl) ?_
              intro fr H
              refine at_nil ?_
              show AW cfg 21 (⟨h.size, []⟩ : Gd) (right (left (right (left (right (left (right (right (right (bodyC cfg.P 21)))))))))) fr h6 _
              refine aw_ret (by kernel_rfl) ?_
              have e1 := Option.some.inj hm
              subst e1
              exact (doneE_of .ret H (fun fr => by kernel_rfl) (.inl rfl) : doneE cfg.P _ _ _ fr _)
          · replace H := H.know 23 hb (by kernel_rfl)
            refine aw_false (x := .tmp 23) (by kernel_rfl) H (fun fr => by kernel_rfl) ?_
            refine aw_seq (by kernel_rfl) ?_
            refine aw_reg (id := 9) (n := 2) [(0, []), (1, [])] (by kernel_rfl) (by kernel_rfl) ?_
            refine at_seg [(0, []), (1, [])] [(2, .ptr (some (h.size, 0))), (7, .func (.func 31) [] [.ptr (some (h1.size, 0))]), (22, .int .i64 x8), (36, .bool (x8 == (4 : Int)))] H (noU_all rfl) (fun fr => by kernel_rfl) ?_
            intro fr H
            refine at_nil ?_
            show AW cfg 21 (⟨h.size, []⟩ : Gd) (right (right (right (left (right (left (right (right (right (bodyC cfg.P 21)))))))))) fr h5 _
            rcases iteB_some hm with ⟨hb, hm⟩ | ⟨hb, hm⟩
            · replace H := H.know 36 hb (by kernel_rfl)
              refine aw_true (x := .tmp 36) (by kernel_rfl) H (fun fr => by kernel_rfl) ?_
              refine aw_seq (by kernel_rfl) ?_
              refine aw_reg (id := 10) (n := 32) [(0, []), (1, []), (2, []), (3, []), (4, []), (5, []), (6, []), (7, []), (8, []), (9, []), (10, []), (11, []), (12, []), (13, []), (14, []), (15, []), (16, []), (17, []), (18, []), (19, []), (20, []), (21, []), (22, []), (23, []), (24, []), (25, []), (26, []), (27, []), (28, []), (29, []), (30, []), (31, [])] (by kernel_rfl) (by kernel_rfl) ?_
              refine at_seg [(0, []), (1, [])] [(2, .ptr (some (h.size, 0))), (38, .func (.func 31) [] [.ptr (some (h1.size, 0))]), (39, .ptr (some (h.size, 1)))] H (noU_all rfl) (fun fr => by kernel_rfl) ?_
              intro fr H
              obtain ⟨x15, hx, hm⟩ := bind_some hm
              refine at_step (v := .int .i64 x15) (h1 := h5) [(2, .ptr (some (h.size, 0))), (38, .func (.func 31) [] [.ptr (some (h1.size, 0))]), (40, .int .i64 x15)] H (fun fr => by kernel_rfl) (fun fr => .of (s_ld (by kernel_rfl) (ldI_eq hx))) ?_
              intro fr t H
              obtain ⟨x16, hx, hm⟩ := bind_some hm
              refine at_step (v := .bool x16) (h1 := h5) [(2, .ptr (some (h.size, 0))), (41, .bool x16)] H (fun fr => by kernel_rfl) (fun fr => Steps.call (by kernel_rfl) (ok_tree_may_1_s0 hx)) ?_
              intro fr t H
              refine at_seg [(4, [])] [(2, .ptr (some (h.size, 0))), (42, .bool x16)] H (noU_all rfl) (fun fr => by kernel_rfl) ?_
              intro fr H
              obtain ⟨x17, ho, hm⟩ := bind_some hm
              refine at_cut [(5, []), (6, []), (7, []), (8, [])] (fun fr' h' => h5 = h' ∧ Has fr' 85 [(2, .ptr (some (h.size, 0))), (46, .bool x17)]) ?_ ?_
              · rcases iteB_some ho with ⟨hb, hm⟩ | ⟨hb, hm⟩
                · replace H := H.know 42 hb (by kernel_rfl)
                  refine at_seg [(5, [])] [(2, .ptr (some (h.size, 0))), (42, .bool true), (43, .ptr (some (h.size, 3)))] H (noU_all rfl) (fun fr => by kernel_rfl) ?_
                  intro fr H
                  obtain ⟨x18, hx, hm⟩ := bind_some hm
                  refine at_step (v := .int .i64 x18) (h1 := h5) [(2, .ptr (some (h.size, 0))), (42, .bool true), (44, .int .i64 x18)] H (fun fr => by kernel_rfl) (fun fr => .of (s_ld (by kernel_rfl) (ldI_eq hx))) ?_
                  intro fr t H
                  refine at_seg [(7, []), (8, [])] [(2, .ptr (some (h.size, 0))), (46, .bool (decide (x18 ≥ (0 : Int))))] H (noU_all rfl) (fun fr => by kernel_rfl) ?_
                  intro fr H
                  have e1 := Option.some.inj hm
                  subst e1
                  exact at_nil ⟨rfl, H.less _ (fun fr => by kernel_rfl)⟩
                · replace H := H.know 42 hb (by kernel_rfl)
                  refine at_seg [(5, []), (6, []), (7, []), (8, [])] [(2, .ptr (some (h.size, 0))), (46, .bool false)] H (noU_all rfl) (fun fr => by kernel_rfl) ?_
                  intro fr H
                  have e1 := Option.some.inj hm
                  subst e1
                  exact at_nil ⟨rfl, H.less _ (fun fr => by kernel_rfl)⟩
              · intro t fr h' hK
                obtain ⟨e, H⟩ := hK
                subst e
                refine at_seg [(9, [])] [(2, .ptr (some (h.size, 0))), (47, .bool x17)] H (noU_all rfl) (fun fr => by kernel_rfl) ?_
                intro fr H
                obtain ⟨x19, ho, hm⟩ := bind_some hm
                refine at_cut [(10, []), (11, []), (12, []), (13, [])] (fun fr' h' => h5 = h' ∧ Has fr' 85 [(2, .ptr (some (h.size, 0))), (51, .bool x19)]) ?_ ?_
                · rcases iteB_some ho with ⟨hb, hm⟩ | ⟨hb, hm⟩
                  · replace H := H.know 47 hb (by kernel_rfl)
                    refine at_seg [(10, [])] [(2, .ptr (some (h.size, 0))), (47, .bool true), (48, .ptr (some (h.size, 3)))] H (noU_all rfl) (fun fr => by kernel_rfl) ?_
                    intro fr H
                    obtain ⟨x20, hx, hm⟩ := bind_some hm
                    refine at_step (v := .int .i64 x20) (h1 := h5) [(2, .ptr (some (h.size, 0))), (47, .bool true), (49, .int .i64 x20)] H (fun fr => by kernel_rfl) (fun fr => .of (s_ld (by kernel_rfl) (ldI_eq hx))) ?_
                    intro fr t H
                    refine at_seg [(12, []), (13, [])] [(2, .ptr (some (h.size, 0))), (51, .bool (decide (x20 ≤ (255 : Int))))] H (noU_all rfl) (fun fr => by kernel_rfl) ?_
                    intro fr H
                    have e1 := Option.some.inj hm
                    subst e1
                    exact at_nil ⟨rfl, H.less _ (fun fr => by kernel_rfl)⟩
                  · replace H := H.know 47 hb (by kernel_rfl)
                    refine at_seg [(10, []), (11, []), (12, []), (13, [])] [(2, .ptr (some (h.size, 0))), (51, .bool false)] H (noU_all rfl) (fun fr => by kernel_rfl) ?_
                    intro fr H
                    have e1 := Option.some.inj hm
                    subst e1
                    exact at_nil ⟨rfl, H.less _ (fun fr => by kernel_rfl)⟩
                · intro t fr h' hK
                  obtain ⟨e, H⟩ := hK
                  subst e
                  refine at_seg [(14, [])] [(2, .ptr (some (h.size, 0))), (52, .bool x19)] H (noU_all rfl) (fun fr => by kernel_rfl) ?_
                  intro fr H
                  obtain ⟨x21, ho, hm⟩ := bind_some hm
                  refine at_cut [(15, []), (16, []), (17, []), (18, []), (19, []), (20, []), (21, []), (22, []), (23, []), (24, []), (25, []), (26, []), (27, []), (28, []), (29, []), (30, [])] (fun fr' h' => h5 = h' ∧ Has fr' 85 [(68, .bool x21)]) ?_ ?_
                  · rcases iteB_some ho with ⟨hb, hm⟩ | ⟨hb, hm⟩
                    · replace H := H.know 52 hb (by kernel_rfl)
                      refine at_seg [(15, [])] [(2, .ptr (some (h.size, 0))), (52, .bool true), (53, .ptr (some (h.size, 4)))] H (noU_all rfl) (fun fr => by kernel_rfl) ?_
                      intro fr H
                      obtain ⟨x22, hx, hm⟩ := bind_some hm
                      refine at_step (v := .int .i64 x22) (h1 := h5) [(2, .ptr (some (h.size, 0))), (52, .bool true), (54, .int .i64 x22)] H (fun fr => by kernel_rfl) (fun fr => .of (s_ld (by kernel_rfl) (ldI_eq hx))) ?_
                      intro fr t H
                      refine at_seg [(17, []), (18, [])] [(2, .ptr (some (h.size, 0))), (52, .bool true), (56, .bool (x22 == (-1 : Int)))] H (noU_all rfl) (fun fr => by kernel_rfl) ?_
                      intro fr H
                      obtain ⟨x23, ho, hm⟩ := bind_some hm
                      refine at_cut [(19, []), (20, []), (21, []), (22, []), (23, []), (24, []), (25, []), (26, []), (27, []), (28, []), (29, [])] (fun fr' h' => h5 = h' ∧ Has fr' 85 [(52, .bool true), (67, .bool x23)]) ?_ ?_
                      · rcases iteB_some ho with ⟨hb, hm⟩ | ⟨hb, hm⟩
                        · replace H := H.know 56 hb (by kernel_rfl)
                          refine at_seg [(19, []), (20, []), (21, []), (22, []), (23, []), (24, []), (25, []), (26, []), (27, []), (28, []), (29, [])] [(52, .bool true), (67, .bool true)] H (noU_all rfl) (fun fr => by kernel_rfl) ?_
                          intro fr H
                          have e1 := Option.some.inj hm
                          subst e1
                          exact at_nil ⟨rfl, H.less _ (fun fr => by kernel_rfl)⟩
                        · replace H := H.know 56 hb (by kernel_rfl)
                          refine at_seg [(19, [])] [(2, .ptr (some (h.size, 0))), (52, .bool true), (56, .bool false), (57, .ptr (some (h.size, 4)))] H (noU_all rfl) (fun fr => by kernel_rfl) ?_
                          intro fr H
                          obtain ⟨x24, hx, hm⟩ := bind_some hm
                          refine at_step (v := .int .i64 x24) (h1 := h5) [(2, .ptr (some (h.size, 0))), (52, .bool true), (56, .bool false), (58, .int .i64 x24)] H (fun fr => by kernel_rfl) (fun fr => .of (s_ld (by kernel_rfl) (ldI_eq hx))) ?_
                          intro fr t H
                          refine at_seg [(21, [])] [(2, .ptr (some (h.size, 0))), (52, .bool true), (56, .bool false), (58, .int .i64 x24), (59, .ptr (some (h.size, 3)))] H (noU_all rfl) (fun fr => by kernel_rfl) ?_
                          intro fr H
                          obtain ⟨x25, hx, hm⟩ := bind_some hm
                          refine at_step (v := .int .i64 x25) (h1 := h5) [(2, .ptr (some (h.size, 0))), (52, .bool true), (56, .bool false), (58, .int .i64 x24), (60, .int .i64 x25)] H (fun fr => by kernel_rfl) (fun fr => .of (s_ld (by kernel_rfl) (ldI_eq hx))) ?_
                          intro fr t H
                          refine at_seg [(23, []), (24, [])] [(2, .ptr (some (h.size, 0))), (52, .bool true), (56, .bool false), (62, .bool (decide (x24 ≥ x25)))] H (noU_all rfl) (fun fr => by kernel_rfl) ?_
                          intro fr H
                          obtain ⟨x26, ho, hm⟩ := bind_some hm
                          refine at_cut [(25, []), (26, []), (27, []), (28, [])] (fun fr' h' => h5 = h' ∧ Has fr' 85 [(52, .bool true), (56, .bool false), (66, .bool x26)]) ?_ ?_
                          · rcases iteB_some ho with ⟨hb, hm⟩ | ⟨hb, hm⟩
                            · replace H := H.know 62 hb (by kernel_rfl)
                              refine at_seg [(25, [])] [(52, .bool true), (56, .bool false), (62, .bool true), (63, .ptr (some (h.size, 4)))] H (noU_all rfl) (fun fr => by kernel_rfl) ?_
                              intro fr H
                              obtain ⟨x27, hx, hm⟩ := bind_some hm
                              refine at_step (v := .int .i64 x27) (h1 := h5) [(52, .bool true), (56, .bool false), (62, .bool true), (64, .int .i64 x27)] H (fun fr => by kernel_rfl) (fun fr => .of (s_ld (by kernel_rfl) (ldI_eq hx))) ?_
                              intro fr t H
                              refine at_seg [(27, []), (28, [])] [(52, .bool true), (56, .bool false), (66, .bool (decide (x27 ≤ (255 : Int))))] H (noU_all rfl) (fun fr => by kernel_rfl) ?_
                              intro fr H
                              have e1 := Option.some.inj hm
                              subst e1
                              exact at_nil ⟨rfl, H.less _ (fun fr => by kernel_rfl)⟩
                            · replace H := H.know 62 hb (by kernel_rfl)
                              refine at_seg [(25, []), (26, []), (27, []), (28, [])] [(52, .bool true), (56, .bool false), (66, .bool false)] H (noU_all rfl) (fun fr => by kernel_rfl) ?_
                              intro fr H
                              have e1 := Option.some.inj hm
                              subst e1
                              exact at_nil ⟨rfl, H.less _ (fun fr => by kernel_rfl)⟩
                          · intro t fr h' hK
                            obtain ⟨e, H⟩ := hK
                            subst e
                            refine at_seg [(29, [])] [(52, .bool true), (67, .bool x26)] H (noU_all rfl) (fun fr => by kernel_rfl) ?_
                            intro fr H
                            have e1 := Option.some.inj hm
                            subst e1
                            exact at_nil ⟨rfl, H.less _ (fun fr => by kernel_rfl)⟩
                      · intro t fr h' hK
                        obtain ⟨e, H⟩ := hK
                        subst e
                        refine at_seg [(30, [])] [(68, .bool x23)] H (noU_all rfl) (fun fr => by kernel_rfl) ?_
                        intro fr H
                        have e1 := Option.some.inj hm
                        subst e1
                        exact at_nil ⟨rfl, H.less _ (fun fr => by kernel_rfl)⟩
                    · replace H := H.know 52 hb (by kernel_rfl)
                      refine at_seg [(15, []), (16, []), (17, []), (18, []), (19, []), (20, []), (21, []), (22, []), (23, []), (24, []), (25, []), (26, []), (27, []), (28, []), (29, []), (30, [])] [(68, .bool false)] H (noU_all rfl) (fun fr => by kernel_rfl) ?_
                      intro fr H
                      have e1 := Option.some.inj hm
                      subst e1
                      exact at_nil ⟨rfl, H.less _ (fun fr => by kernel_rfl)⟩
                  · intro t fr h' hK
                    obtain ⟨e, H⟩ := hK
                    subst e
                    refine at_seg [(31, [])] [(4, .bool x21)] H (noU_all rfl) (fun fr => by kernel_rfl) ?_
                    intro fr H
                    refine at_nil ?_
                    show AW cfg 21 (⟨h.size, []⟩ : Gd) (right (left (right (right (right (left (right (left (right (right (right (bodyC cfg.P 21)))))))))))) fr h5 _
                    refine aw_ret (by kernel_rfl) ?_
                    have e1 := Option.some.inj hm
                    subst e1
                    exact (doneE_of .ret H (fun fr => by kernel_rfl) (.inl rfl) : doneE cfg.P _ _ _ fr _)
            · replace H := H.know 36 hb (by kernel_rfl)
              refine aw_false (x := .tmp 36) (by kernel_rfl) H (fun fr => by kernel_rfl) ?_
              refine aw_seq (by kernel_rfl) ?_
              refine aw_reg (id := 11) (n := 2) [(0, []), (1, [])] (by kernel_rfl) (by kernel_rfl) ?_
              refine at_seg [(0, []), (1, [])] [(2, .ptr (some (h.size, 0))), (7, .func (.func 31) [] [.ptr (some (h1.size, 0))]), (69, .bool (x8 == (5 : Int)))] H (noU_all rfl) (fun fr => by kernel_rfl) ?_
              intro fr H
              refine at_nil ?_
              show AW cfg 21 (⟨h.size, []⟩ : Gd) (right (right (right (right (right (left (right (left (right (right (right (bodyC cfg.P 21)))))))))))) fr h5 _
              rcases iteB_some hm with ⟨hb, hm⟩ | ⟨hb, hm⟩
              · replace H := H.know 69 hb (by kernel_rfl)
                refine aw_true (x := .tmp 69) (by kernel_rfl) H (fun fr => by kernel_rfl) ?_
                refine aw_seq (by kernel_rfl) ?_
                refine aw_reg (id := 12) (n := 15) [(0, []), (1, []), (2, []), (3, []), (4, []), (5, []), (6, []), (7, []), (8, []), (9, []), (10, []), (11, []), (12, []), (13, []), (14, [])] (by kernel_rfl) (by kernel_rfl) ?_
                refine at_seg [(0, []), (1, [])] [(2, .ptr (some (h.size, 0))), (71, .func (.func 31) [] [.ptr (some (h1.size, 0))]), (72, .ptr (some (h.size, 1)))] H (noU_all rfl) (fun fr => by kernel_rfl) ?_
                intro fr H
                obtain ⟨x28, hx, hm⟩ := bind_some hm
                refine at_step (v := .int .i64 x28) (h1 := h5) [(2, .ptr (some (h.size, 0))), (71, .func (.func 31) [] [.ptr (some (h1.size, 0))]), (73, .int .i64 x28)] H (fun fr => by kernel_rfl) (fun fr => .of (s_ld (by kernel_rfl) (ldI_eq hx))) ?_
                intro fr t H
                obtain ⟨x29, hx, hm⟩ := bind_some hm
                refine at_step (v := .bool x29) (h1 := h5) [(2, .ptr (some (h.size, 0))), (74, .bool x29)] H (fun fr => by kernel_rfl) (fun fr => Steps.call (by kernel_rfl) (ok_tree_may_1_s0 hx)) ?_
                intro fr t H
                refine at_seg [(4, [])] [(2, .ptr (some (h.size, 0))), (75, .bool x29)] H (noU_all rfl) (fun fr => by kernel_rfl) ?_
                intro fr H
                obtain ⟨x30, ho, hm⟩ := bind_some hm
                refine at_cut [(5, []), (6, []), (7, []), (8, [])] (fun fr' h' => h5 = h' ∧ Has fr' 85 [(2, .ptr (some (h.size, 0))), (79, .bool x30)]) ?_ ?_
                · rcases iteB_some ho with ⟨hb, hm⟩ | ⟨hb, hm⟩
                  · replace H := H.know 75 hb (by kernel_rfl)
                    refine at_seg [(5, [])] [(2, .ptr (some (h.size, 0))), (75, .bool true), (76, .ptr (some (h.size, 5)))] H (noU_all rfl) (fun fr => by kernel_rfl) ?_
                    intro fr H
                    obtain ⟨x31, hx, hm⟩ := bind_some hm
                    refine at_step (v := .int .i64 x31) (h1 := h5) [(2, .ptr (some (h.size, 0))), (75, .bool true), (77, .int .i64 x31)] H (fun fr => by kernel_rfl) (fun fr => .of (s_ld (by kernel_rfl) (ldI_eq hx))) ?_
                    intro fr t H
                    refine at_seg [(7, []), (8, [])] [(2, .ptr (some (h.size, 0))), (79, .bool (decide (x31 ≥ (1 : Int))))] H (noU_all rfl) (fun fr => by kernel_rfl) ?_
                    intro fr H
                    have e1 := Option.some.inj hm
                    subst e1
                    exact at_nil ⟨rfl, H.less _ (fun fr => by kernel_rfl)⟩
                  · replace H := H.know 75 hb (by kernel_rfl)
                    refine at_seg [(5, []), (6, []), (7, []), (8, [])] [(2, .ptr (some (h.size, 0))), (79, .bool false)] H (noU_all rfl) (fun fr => by kernel_rfl) ?_
                    intro fr H
                    have e1 := Option.some.inj hm
                    subst e1
                    exact at_nil ⟨rfl, H.less _ (fun fr => by kernel_rfl)⟩
                · intro t fr h' hK
                  obtain ⟨e, H⟩ := hK
                  subst e
                  refine at_seg [(9, [])] [(2, .ptr (some (h.size, 0))), (80, .bool x30)] H (noU_all rfl) (fun fr => by kernel_rfl) ?_
                  intro fr H
                  obtain ⟨x32, ho, hm⟩ := bind_some hm
                  refine at_cut [(10, []), (11, []), (12, []), (13, [])] (fun fr' h' => h5 = h' ∧ Has fr' 85 [(84, .bool x32)]) ?_ ?_
                  · rcases iteB_some ho with ⟨hb, hm⟩ | ⟨hb, hm⟩
                    · replace H := H.know 80 hb (by kernel_rfl)
                      refine at_seg [(10, [])] [(80, .bool true), (81, .ptr (some (h.size, 5)))] H (noU_all rfl) (fun fr => by kernel_rfl) ?_
                      intro fr H
                      obtain ⟨x33, hx, hm⟩ := bind_some hm
                      refine at_step (v := .int .i64 x33) (h1 := h5) [(80, .bool true), (82, .int .i64 x33)] H (fun fr => by kernel_rfl) (fun fr => .of (s_ld (by kernel_rfl) (ldI_eq hx))) ?_
                      intro fr t H
                      refine at_seg [(12, []), (13, [])] [(84, .bool (decide (x33 ≤ (1024 : Int))))] H (noU_all rfl) (fun fr => by kernel_rfl) ?_
                      intro fr H
                      have e1 := Option.some.inj hm
                      subst e1
                      exact at_nil ⟨rfl, H.less _ (fun fr => by kernel_rfl)⟩
                    · replace H := H.know 80 hb (by kernel_rfl)
                      refine at_seg [(10, []), (11, []), (12, []), (13, [])] [(84, .bool false)] H (noU_all rfl) (fun fr => by kernel_rfl) ?_
                      intro fr H
                      have e1 := Option.some.inj hm
                      subst e1
                      exact at_nil ⟨rfl, H.less _ (fun fr => by kernel_rfl)⟩
                  · intro t fr h' hK
                    obtain ⟨e, H⟩ := hK
                    subst e
                    refine at_seg [(14, [])] [(4, .bool x32)] H (noU_all rfl) (fun fr => by kernel_rfl) ?_
                    intro fr H
                    refine at_nil ?_
                    show AW cfg 21 (⟨h.size, []⟩ : Gd) (right (left (right (right (right (right (right (left (right (left (right (right (right (bodyC cfg.P 21)))))))))))))) fr h5 _
                    refine aw_ret (by kernel_rfl) ?_
                    have e1 := Option.some.inj hm
                    subst e1
                    exact (doneE_of .ret H (fun fr => by kernel_rfl) (.inl rfl) : doneE cfg.P _ _ _ fr _)
              · replace H := H.know 69 hb (by kernel_rfl)
                refine aw_false (x := .tmp 69) (by kernel_rfl) H (fun fr => by kernel_rfl) ?_
                refine aw_skip (by kernel_rfl) ?_
                show AW cfg 21 (⟨h.size, []⟩ : Gd) (right (right (right (right (bodyC cfg.P 21))))) fr h5 _
                refine aw_seq (by kernel_rfl) ?_
                refine aw_reg (id := 13) (n := 1) [(0, [])] (by kernel_rfl) (by kernel_rfl) ?_
                refine at_seg [(0, [])] [(4, .bool true)] H (noU_all rfl) (fun fr => by kernel_rfl) ?_
                intro fr H
                refine at_nil ?_
                show AW cfg 21 (⟨h.size, []⟩ : Gd) (right (right (right (right (right (bodyC cfg.P 21)))))) fr h5 _
                refine aw_ret (by kernel_rfl) ?_
                have e1 := Option.some.inj hm
                subst e1
                exact (doneE_of .ret H (fun fr => by kernel_rfl) (.inl rfl) : doneE cfg.P _ _ _ fr _)
        · exact hF.elim
/-! ### (*boulter/tree.Tree).Add -/
noncomputable def M_tree_Tree_Add (g : Gd) (h : AHeap) (p0 : Option (Nat × Nat)) (p1 : List AVal) : Option ((Int × Int) × AHeap) :=
 need (p1.all AVal.one) <| (some (h.push (.cells none 2 p1))).bind fun h1 => (p0).bind fun a1 => (ldL h1 (a1.1, a1.2 + 0)).bind fun x1 => iteB (decide (((x1.n : Nat) : Int) ≥ (1024 : Int))) (some (((0 : Int), (8 : Int)), h1)) ((ldA h1 (h.size, 0) 10).bind fun x2 => (p0).bind fun a2 => (ldL h1 (a2.1, a2.2 + 0)).bind fun x3 => (M_tree_may h1 x2 ((x3.n : Nat) : Int)).bind fun x4 => iteB (!x4) (some (((0 : Int), (1 : Int)), h1)) ((p0).bind fun a3 => (ldL h1 (a3.1, a3.2 + 0)).bind fun x5 => (ldA h1 (h.size, 0) 10).bind fun x6 => need (Nat.beq x6.length 10 && x6.all AVal.one) <| (some (h1.push (.cells (some 30) 2 x6))).bind fun h2 => (app 30 10 80 g h2 x5 1 (.slice (some (h1.size, 0)) 1)).bind fun (x7, h3) => (p0).bind fun a4 => (st g h3 (a4.1, a4.2 + 0) [.slice x7.r x7.n]).bind fun h4 => (p0).bind fun a5 => (ldL h4 (a5.1, a5.2 + 0)).bind fun x8 => (p0).bind fun a6 => (st g h4 (a6.1, a6.2 + 1) [.int .i64 (IntKind.i64.wrap (((x8.n : Nat) : Int) - (1 : Int)))]).bind fun h5 => (p0).bind fun a7 => (ldI h5 (a7.1, a7.2 + 1) .i64).bind fun x9 => some ((x9, (0 : Int)), h5)))
theorem ok_tree_Tree_Add {g : Gd} {h h' : AHeap} {p0 : Option (Nat × Nat)} {p1 : List AVal} {r0 : Int} {r1 : Int} (hm : M_tree_Tree_Add g h p0 p1 = some ((r0, r1), h')) : Runs cfg g h 8 [.ptr p0, .agg p1] (.tuple [.int .i64 r0, .int .i64 r1]) h' := by
  refine runs1 (by kernel_rfl) (body_of (n := 45) (rs := [.tmp 4, .tmp 5]) (by kernel_rfl) ?_)
  unfold M_tree_Tree_Add at hm
  refine start (n := 45) [(0, .ptr p0), (1, .agg p1)] (by kernel_rfl) (by kernel_rfl) ?_
  intro fr H
  refine aw_seq (by kernel_rfl) ?_
  refine aw_reg (id := 0) (n := 3) [(0, []), (1, []), (2, [])] (by kernel_rfl) (by kernel_rfl) ?_
  obtain ⟨hb, hm⟩ := need_some hm
  obtain ⟨h1, hx, hm⟩ := bind_some hm
  refine at_step (v := .ptr (some (h.size, 0))) (h1 := h1) [(0, .ptr p0), (3, .ptr (some (h.size, 0)))] H (fun fr => by kernel_rfl) (fun fr => .of (s_boxG (by kernel_rfl) hb hx)) ?_
  intro fr t H
  refine at_seg [(1, []), (2, [])] [(0, .ptr p0), (3, .ptr (some (h.size, 0)))] H (noU_all rfl) (fun fr => by kernel_rfl) ?_
  intro fr H
  refine at_nil ?_
  show AW cfg 8 g (right (bodyC cfg.P 8)) fr h1 _
  refine aw_seq (by kernel_rfl) ?_
  refine aw_block (id := 0) (by kernel_rfl) ?_
  refine aw_seq (by kernel_rfl) ?_
  refine aw_reg (id := 1) (n := 7) [(0, []), (1, []), (2, []), (3, []), (4, []), (5, []), (6, [])] (by kernel_rfl) (by kernel_rfl) ?_
  refine at_seg [(0, [])] [(0, .ptr p0), (3, .ptr (some (h.size, 0))), (7, .ptr p0)] H (noU_all rfl) (fun fr => by kernel_rfl) ?_
  intro fr H
  obtain ⟨a1, hx, hm⟩ := bind_some hm
  refine at_step (v := .ptr (some a1)) (h1 := h1) [(0, .ptr p0), (3, .ptr (some (h.size, 0))), (8, .ptr (some (a1.1, a1.2)))] H (fun fr => by kernel_rfl) (fun fr => .of (s_nc (by kernel_rfl) hx)) ?_
  intro fr t H
  refine at_seg [(2, [])] [(0, .ptr p0), (3, .ptr (some (h.size, 0))), (9, .ptr (some (a1.1, a1.2 + 0)))] H (noU_all rfl) (fun fr => by kernel_rfl) ?_
  intro fr H
  obtain ⟨x1, hx, hm⟩ := bind_some hm
  refine at_step (v := .slice x1.r x1.n) (h1 := h1) [(0, .ptr p0), (3, .ptr (some (h.size, 0))), (10, .slice x1.r x1.n)] H (fun fr => by kernel_rfl) (fun fr => .of (s_ld (by kernel_rfl) (ldL_eq hx))) ?_
  intro fr t H
  refine at_seg [(4, []), (5, []), (6, [])] [(0, .ptr p0), (3, .ptr (some (h.size, 0))), (6, .bool (decide (((x1.n : Nat) : Int) ≥ (1024 : Int))))] H (noU_all rfl) (fun fr => by kernel_rfl) ?_
  intro fr H
  refine at_nil ?_
  show AW cfg 8 g (right (left (left (right (bodyC cfg.P 8))))) fr h1 _
  rcases iteB_some hm with ⟨hb, hm⟩ | ⟨hb, hm⟩
  · replace H := H.know 6 hb (by kernel_rfl)
    refine aw_true (x := .tmp 6) (by kernel_rfl) H (fun fr => by kernel_rfl) ?_
    refine aw_seq (by kernel_rfl) ?_
    refine aw_reg (id := 2) (n := 2) [(0, []), (1, [])] (by kernel_rfl) (by kernel_rfl) ?_
    refine at_seg [(0, []), (1, [])] [(4, .int .i64 (0 : Int)), (5, .int .i64 (8 : Int))] H (noU_all rfl) (fun fr => by kernel_rfl) ?_
    intro fr H
    refine at_nil ?_
    show AW cfg 8 g (right (left (right (left (left (right (bodyC cfg.P 8))))))) fr h1 _
    refine aw_ret (by kernel_rfl) ?_
    obtain ⟨e1, e2⟩ := inj2 hm
    subst e2
    obtain ⟨u0, v0⟩ := Prod.mk.inj e1
    subst u0
    subst v0
    exact (done_ret H (fun fr => by kernel_rfl) rfl : doneQ cfg.P _ _ _ _ fr _)
  · replace H := H.know 6 hb (by kernel_rfl)
    refine aw_false (x := .tmp 6) (by kernel_rfl) H (fun fr => by kernel_rfl) ?_
    refine aw_seq (by kernel_rfl) ?_
    refine aw_draw (id := 3) (n := 9) (by kernel_rfl) [(0, []), (1, []), (2, []), (3, []), (4, []), (5, []), (6, []), (7, []), (8, [])] (by kernel_rfl) ?_
    obtain ⟨x2, hx, hm⟩ := bind_some hm
    refine at_step (v := .agg x2) (h1 := h1) [(0, .ptr p0), (3, .ptr (some (h.size, 0))), (14, .agg x2)] H (fun fr => by kernel_rfl) (fun fr => .of (s_ldA (by kernel_rfl) hx)) ?_
    intro fr t H
    refine at_seg [(1, [])] [(0, .ptr p0), (3, .ptr (some (h.size, 0))), (14, .agg x2), (15, .ptr p0)] H (noU_all rfl) (fun fr => by kernel_rfl) ?_
    intro fr H
    obtain ⟨a2, hx, hm⟩ := bind_some hm
    refine at_step (v := .ptr (some a2)) (h1 := h1) [(0, .ptr p0), (3, .ptr (some (h.size, 0))), (14, .agg x2), (16, .ptr (some (a2.1, a2.2)))] H (fun fr => by kernel_rfl) (fun fr => .of (s_nc (by kernel_rfl) hx)) ?_
    intro fr t H
    refine at_seg [(3, [])] [(0, .ptr p0), (3, .ptr (some (h.size, 0))), (14, .agg x2), (17, .ptr (some (a2.1, a2.2 + 0)))] H (noU_all rfl) (fun fr => by kernel_rfl) ?_
    intro fr H
    obtain ⟨x3, hx, hm⟩ := bind_some hm
    refine at_step (v := .slice x3.r x3.n) (h1 := h1) [(0, .ptr p0), (3, .ptr (some (h.size, 0))), (14, .agg x2), (18, .slice x3.r x3.n)] H (fun fr => by kernel_rfl) (fun fr => .of (s_ld (by kernel_rfl) (ldL_eq hx))) ?_
    intro fr t H
    refine at_seg [(5, [])] [(0, .ptr p0), (3, .ptr (some (h.size, 0))), (14, .agg x2), (19, .int .i64 ((x3.n : Nat) : Int))] H (noU_all rfl) (fun fr => by kernel_rfl) ?_
    intro fr H
    obtain ⟨x4, hx, hm⟩ := bind_some hm
    refine at_step (v := .bool x4) (h1 := h1) [(0, .ptr p0), (3, .ptr (some (h.size, 0))), (20, .bool x4)] H (fun fr => by kernel_rfl) (fun fr => Steps.call (by kernel_rfl) (ok_tree_may hx)) ?_
    intro fr t H
    refine at_seg [(7, []), (8, [])] [(0, .ptr p0), (3, .ptr (some (h.size, 0))), (13, .bool (!x4))] H (noU_all rfl) (fun fr => by kernel_rfl) ?_
    intro fr H
    refine at_nil ?_
    show AW cfg 8 g (right (right (right (left (left (right (bodyC cfg.P 8))))))) fr h1 _
    rcases iteB_some hm with ⟨hb, hm⟩ | ⟨hb, hm⟩
    · replace H := H.know 13 hb (by kernel_rfl)
      refine aw_true (x := .tmp 13) (by kernel_rfl) H (fun fr => by kernel_rfl) ?_
      refine aw_seq (by kernel_rfl) ?_
      refine aw_reg (id := 4) (n := 2) [(0, []), (1, [])] (by kernel_rfl) (by kernel_rfl) ?_
      refine at_seg [(0, []), (1, [])] [(4, .int .i64 (0 : Int)), (5, .int .i64 (1 : Int))] H (noU_all rfl) (fun fr => by kernel_rfl) ?_
      intro fr H
      refine at_nil ?_
      show AW cfg 8 g (right (left (right (right (right (left (left (right (bodyC cfg.P 8))))))))) fr h1 _
      refine aw_ret (by kernel_rfl) ?_
      obtain ⟨e1, e2⟩ := inj2 hm
      subst e2
      obtain ⟨u0, v0⟩ := Prod.mk.inj e1
      subst u0
      subst v0
      exact (done_ret H (fun fr => by kernel_rfl) rfl : doneQ cfg.P _ _ _ _ fr _)
    · replace H := H.know 13 hb (by kernel_rfl)
      refine aw_false (x := .tmp 13) (by kernel_rfl) H (fun fr => by kernel_rfl) ?_
      refine aw_skip (by kernel_rfl) ?_
      show AW cfg 8 g (right (right (bodyC cfg.P 8))) fr h1 _
      refine aw_seq (by kernel_rfl) ?_
      refine aw_draw (id := 5) (n := 11) (by kernel_rfl) [(0, []), (1, []), (2, []), (3, []), (4, []), (5, []), (6, []), (7, []), (8, []), (9, []), (10, [])] (by kernel_rfl) ?_
      refine at_seg [(0, []), (1, [])] [(0, .ptr p0), (3, .ptr (some (h.size, 0))), (22, .ptr p0), (23, .ptr p0)] H (noU_all rfl) (fun fr => by kernel_rfl) ?_
      intro fr H
      obtain ⟨a3, hx, hm⟩ := bind_some hm
      refine at_step (v := .ptr (some a3)) (h1 := h1) [(0, .ptr p0), (3, .ptr (some (h.size, 0))), (22, .ptr p0), (24, .ptr (some (a3.1, a3.2)))] H (fun fr => by kernel_rfl) (fun fr => .of (s_nc (by kernel_rfl) hx)) ?_
      intro fr t H
      refine at_seg [(3, [])] [(0, .ptr p0), (3, .ptr (some (h.size, 0))), (22, .ptr p0), (25, .ptr (some (a3.1, a3.2 + 0)))] H (noU_all rfl) (fun fr => by kernel_rfl) ?_
      intro fr H
      obtain ⟨x5, hx, hm⟩ := bind_some hm
      refine at_step (v := .slice x5.r x5.n) (h1 := h1) [(0, .ptr p0), (3, .ptr (some (h.size, 0))), (22, .ptr p0), (26, .slice x5.r x5.n)] H (fun fr => by kernel_rfl) (fun fr => .of (s_ld (by kernel_rfl) (ldL_eq hx))) ?_
      intro fr t H
      obtain ⟨x6, hx, hm⟩ := bind_some hm
      refine at_step (v := .agg x6) (h1 := h1) [(0, .ptr p0), (22, .ptr p0), (26, .slice x5.r x5.n), (27, .agg x6)] H (fun fr => by kernel_rfl) (fun fr => .of (s_ldA (by kernel_rfl) hx)) ?_
      intro fr t H
      obtain ⟨hb, hm⟩ := need_some hm
      obtain ⟨h2, hx, hm⟩ := bind_some hm
      refine at_step (v := .slice (some (h1.size, 0)) 1) (h1 := h2) [(0, .ptr p0), (22, .ptr p0), (26, .slice x5.r x5.n), (28, .slice (some (h1.size, 0)) 1)] H (fun fr => by kernel_rfl) (fun fr => .of (s_one (by kernel_rfl) hb hx)) ?_
      intro fr t H
      obtain ⟨⟨x7, h3⟩, hx, hm⟩ := bind_some hm
      refine at_step (v := .slice x7.r x7.n) (h1 := h3) [(0, .ptr p0), (22, .ptr p0), (29, .slice x7.r x7.n)] H (fun fr => by kernel_rfl) (fun fr => .of (s_app (s := x5) (by kernel_rfl) hx)) ?_
      intro fr t H
      obtain ⟨a4, hx, hm⟩ := bind_some hm
      refine at_step (v := .ptr (some a4)) (h1 := h3) [(0, .ptr p0), (29, .slice x7.r x7.n), (30, .ptr (some (a4.1, a4.2)))] H (fun fr => by kernel_rfl) (fun fr => .of (s_nc (by kernel_rfl) hx)) ?_
      intro fr t H
      refine at_seg [(9, [])] [(0, .ptr p0), (29, .slice x7.r x7.n), (31, .ptr (some (a4.1, a4.2 + 0)))] H (noU_all rfl) (fun fr => by kernel_rfl) ?_
      intro fr H
      obtain ⟨h4, hx, hm⟩ := bind_some hm
      refine at_step (v := .tuple []) (h1 := h4) [(0, .ptr p0)] H (fun fr => by kernel_rfl) (fun fr => .of (s_st (by kernel_rfl) rfl hx)) ?_
      intro fr t H
      refine at_nil ?_
      show AW cfg 8 g (right (right (right (bodyC cfg.P 8)))) fr h4 _
      refine aw_seq (by kernel_rfl) ?_
      refine aw_reg (id := 6) (n := 10) [(0, []), (1, []), (2, []), (3, []), (4, []), (5, []), (6, []), (7, []), (8, []), (9, [])] (by kernel_rfl) (by kernel_rfl) ?_
      refine at_seg [(0, []), (1, [])] [(0, .ptr p0), (32, .ptr p0), (33, .ptr p0)] H (noU_all rfl) (fun fr => by kernel_rfl) ?_
      intro fr H
      obtain ⟨a5, hx, hm⟩ := bind_some hm
      refine at_step (v := .ptr (some a5)) (h1 := h4) [(0, .ptr p0), (32, .ptr p0), (34, .ptr (some (a5.1, a5.2)))] H (fun fr => by kernel_rfl) (fun fr => .of (s_nc (by kernel_rfl) hx)) ?_
      intro fr t H
      refine at_seg [(3, [])] [(0, .ptr p0), (32, .ptr p0), (35, .ptr (some (a5.1, a5.2 + 0)))] H (noU_all rfl) (fun fr => by kernel_rfl) ?_
      intro fr H
      obtain ⟨x8, hx, hm⟩ := bind_some hm
      refine at_step (v := .slice x8.r x8.n) (h1 := h4) [(0, .ptr p0), (32, .ptr p0), (36, .slice x8.r x8.n)] H (fun fr => by kernel_rfl) (fun fr => .of (s_ld (by kernel_rfl) (ldL_eq hx))) ?_
      intro fr t H
      refine at_seg [(5, []), (6, [])] [(0, .ptr p0), (32, .ptr p0), (38, .int .i64 (IntKind.i64.wrap (((x8.n : Nat) : Int) - (1 : Int))))] H (noU_all rfl) (fun fr => by kernel_rfl) ?_
      intro fr H
      obtain ⟨a6, hx, hm⟩ := bind_some hm
      refine at_step (v := .ptr (some a6)) (h1 := h4) [(0, .ptr p0), (38, .int .i64 (IntKind.i64.wrap (((x8.n : Nat) : Int) - (1 : Int)))), (39, .ptr (some (a6.1, a6.2)))] H (fun fr => by kernel_rfl) (fun fr => .of (s_nc (by kernel_rfl) hx)) ?_
      intro fr t H
      refine at_seg [(8, [])] [(0, .ptr p0), (38, .int .i64 (IntKind.i64.wrap (((x8.n : Nat) : Int) - (1 : Int)))), (40, .ptr (some (a6.1, a6.2 + 1)))] H (noU_all rfl) (fun fr => by kernel_rfl) ?_
      intro fr H
      obtain ⟨h5, hx, hm⟩ := bind_some hm
      refine at_step (v := .tuple []) (h1 := h5) [(0, .ptr p0)] H (fun fr => by kernel_rfl) (fun fr => .of (s_st (by kernel_rfl) rfl hx)) ?_
      intro fr t H
      refine at_nil ?_
      show AW cfg 8 g (right (right (right (right (bodyC cfg.P 8))))) fr h5 _
      refine aw_seq (by kernel_rfl) ?_
      refine aw_reg (id := 7) (n := 6) [(0, []), (1, []), (2, []), (3, []), (4, []), (5, [])] (by kernel_rfl) (by kernel_rfl) ?_
      refine at_seg [(0, [])] [(41, .ptr p0)] H (noU_all rfl) (fun fr => by kernel_rfl) ?_
      intro fr H
      obtain ⟨a7, hx, hm⟩ := bind_some hm
      refine at_step (v := .ptr (some a7)) (h1 := h5) [(42, .ptr (some (a7.1, a7.2)))] H (fun fr => by kernel_rfl) (fun fr => .of (s_nc (by kernel_rfl) hx)) ?_
      intro fr t H
      refine at_seg [(2, [])] [(43, .ptr (some (a7.1, a7.2 + 1)))] H (noU_all rfl) (fun fr => by kernel_rfl) ?_
      intro fr H
      obtain ⟨x9, hx, hm⟩ := bind_some hm
      refine at_step (v := .int .i64 x9) (h1 := h5) [(44, .int .i64 x9)] H (fun fr => by kernel_rfl) (fun fr => .of (s_ld (by kernel_rfl) (ldI_eq hx))) ?_
      intro fr t H
      refine at_seg [(4, []), (5, [])] [(4, .int .i64 x9), (5, .int .i64 (0 : Int))] H (noU_all rfl) (fun fr => by kernel_rfl) ?_
      intro fr H
      refine at_nil ?_
      show AW cfg 8 g (right (right (right (right (right (bodyC cfg.P 8)))))) fr h5 _
      refine aw_ret (by kernel_rfl) ?_
      obtain ⟨e1, e2⟩ := inj2 hm
      subst e2
      obtain ⟨u0, v0⟩ := Prod.mk.inj e1
      subst u0
      subst v0
      exact (done_ret H (fun fr => by kernel_rfl) rfl : doneQ cfg.P _ _ _ _ fr _)
/-! ### (boulter/tree.Tree).Right -/
noncomputable def M_tree_Tree_Right_L0 (h : AHeap) (x7 : Sl) (s : Int × AHeap) : Option ((Int × AHeap) ⊕ ((AHeap) ⊕ (Bool × AHeap))) :=
  match s with
  | (x10, h2) => iteB (decide (x10 < ((x7.n : Nat) : Int))) ((ixL x7 10 x10).bind fun a1 => (ldA h2 (a1.1, a1.2) 10).bind fun x11 => (some (h2.push (.cells none 2 [.int .i64 (0 : Int), .int .i64 (0 : Int), .int .i64 (0 : Int), .int .i64 (0 : Int), .int .i64 (0 : Int), .int .i64 (0 : Int), .int .u64 (0 : Int), .int .u64 (0 : Int), .int .u64 (0 : Int), .int .u64 (0 : Int)]))).bind fun h3 => (stG 10 (⟨h.size, []⟩ : Gd) h3 (h2.size, 0) x11).bind fun h4 => (ldA h4 (h2.size, 0) 10).bind fun x12 => (M_tree_may h4 x12 x10).bind fun x13 => iteB (!x13) (some (.inr (.inr (false, h4)))) (some (.inl (IntKind.i64.wrap (x10 + (1 : Int)), h4)))) (some (.inr (.inl h2)))
noncomputable def M_tree_Tree_Right (h : AHeap) (p0 : List AVal) : Option (Bool) :=
 need (p0.all AVal.one) <| (some (h.push (.cells none 2 p0))).bind fun h1 => (ldL h1 (h.size, 0)).bind fun x1 => (iteB (decide (((x1.n : Nat) : Int) > (1024 : Int))) (some true) ((ldI h1 (h.size, 1) .i64).bind fun x3 => some (decide (x3 < (0 : Int)))) : Option (Bool)).bind fun x2 => (iteB x2 (some true) ((ldI h1 (h.size, 1) .i64).bind fun x5 => (ldL h1 (h.size, 0)).bind fun x6 => some (decide (x5 ≥ ((x6.n : Nat) : Int)))) : Option (Bool)).bind fun x4 => iteB x4 (some false) ((ldL h1 (h.size, 0)).bind fun x7 => (loop (M_tree_Tree_Right_L0 h x7) ((0 : Int), h1)).bind fun o1 => (match o1 with | .inl h5 => some true | .inr (x9, h5) => some x9))
theorem ok_tree_Tree_Right {g : Gd} {h : AHeap} {p0 : List AVal} {r0 : Bool} (hm : M_tree_Tree_Right h p0 = some r0) : Runs cfg g h 11 [.agg p0] (.bool r0) h := by
  refine runs2E (by kernel_rfl) (by kernel_rfl) (body_ofE (n := 35) (rs := [.tmp 2]) (by kernel_rfl) ?_)
  unfold M_tree_Tree_Right at hm
  refine start (n := 35) [(0, .agg p0)] (by kernel_rfl) (by kernel_rfl) ?_
  intro fr H
  refine aw_seq (by kernel_rfl) ?_
  refine aw_reg (id := 0) (n := 2) [(0, []), (1, [])] (by kernel_rfl) (by kernel_rfl) ?_
  obtain ⟨hb, hm⟩ := need_some hm
  obtain ⟨h1, hx, hm⟩ := bind_some hm
  refine at_step (v := .ptr (some (h.size, 0))) (h1 := h1) [(1, .ptr (some (h.size, 0)))] H (fun fr => by kernel_rfl) (fun fr => .of (s_boxG (by kernel_rfl) hb hx)) ?_
  intro fr t H
  refine at_seg [(1, [])] [(1, .ptr (some (h.size, 0)))] H (noU_all rfl) (fun fr => by kernel_rfl) ?_
  intro fr H
  refine at_nil ?_
  show AW cfg 11 (⟨h.size, []⟩ : Gd) (right (bodyC cfg.P 11)) fr h1 _
  refine aw_seq (by kernel_rfl) ?_
  refine aw_seq (by kernel_rfl) ?_
  refine aw_reg (id := 1) (n := 17) [(0, []), (1, []), (2, []), (3, []), (4, []), (5, []), (6, []), (7, []), (8, []), (9, []), (10, []), (11, []), (12, []), (13, []), (14, []), (15, []), (16, [])] (by kernel_rfl) (by kernel_rfl) ?_
  refine at_seg [(0, [])] [(1, .ptr (some (h.size, 0))), (5, .ptr (some (h.size, 0)))] H (noU_all rfl) (fun fr => by kernel_rfl) ?_
  intro fr H
  obtain ⟨x1, hx, hm⟩ := bind_some hm
  refine at_step (v := .slice x1.r x1.n) (h1 := h1) [(1, .ptr (some (h.size, 0))), (6, .slice x1.r x1.n)] H (fun fr => by kernel_rfl) (fun fr => .of (s_ld (by kernel_rfl) (ldL_eq hx))) ?_
  intro fr t H
  refine at_seg [(2, []), (3, []), (4, [])] [(1, .ptr (some (h.size, 0))), (9, .bool (decide (((x1.n : Nat) : Int) > (1024 : Int))))] H (noU_all rfl) (fun fr => by kernel_rfl) ?_
  intro fr H
  obtain ⟨x2, ho, hm⟩ := bind_some hm
  refine at_cut [(5, []), (6, []), (7, []), (8, [])] (fun fr' h' => h1 = h' ∧ Has fr' 35 [(1, .ptr (some (h.size, 0))), (13, .bool x2)]) ?_ ?_
  · rcases iteB_some ho with ⟨hb, hm⟩ | ⟨hb, hm⟩
    · replace H := H.know 9 hb (by kernel_rfl)
      refine at_seg [(5, []), (6, []), (7, []), (8, [])] [(1, .ptr (some (h.size, 0))), (13, .bool true)] H (noU_all rfl) (fun fr => by kernel_rfl) ?_
      intro fr H
      have e1 := Option.some.inj hm
      subst e1
      exact at_nil ⟨rfl, H.less _ (fun fr => by kernel_rfl)⟩
    · replace H := H.know 9 hb (by kernel_rfl)
      refine at_seg [(5, [])] [(1, .ptr (some (h.size, 0))), (9, .bool false), (10, .ptr (some (h.size, 1)))] H (noU_all rfl) (fun fr => by kernel_rfl) ?_
      intro fr H
      obtain ⟨x3, hx, hm⟩ := bind_some hm
      refine at_step (v := .int .i64 x3) (h1 := h1) [(1, .ptr (some (h.size, 0))), (9, .bool false), (11, .int .i64 x3)] H (fun fr => by kernel_rfl) (fun fr => .of (s_ld (by kernel_rfl) (ldI_eq hx))) ?_
      intro fr t H
      refine at_seg [(7, []), (8, [])] [(1, .ptr (some (h.size, 0))), (13, .bool (decide (x3 < (0 : Int))))] H (noU_all rfl) (fun fr => by kernel_rfl) ?_
      intro fr H
      have e1 := Option.some.inj hm
      subst e1
      exact at_nil ⟨rfl, H.less _ (fun fr => by kernel_rfl)⟩
  · intro t fr h' hK
    obtain ⟨e, H⟩ := hK
    subst e
    refine at_seg [(9, [])] [(1, .ptr (some (h.size, 0))), (14, .bool x2)] H (noU_all rfl) (fun fr => by kernel_rfl) ?_
    intro fr H
    obtain ⟨x4, ho, hm⟩ := bind_some hm
    refine at_cut [(10, []), (11, []), (12, []), (13, []), (14, []), (15, []), (16, [])] (fun fr' h' => h1 = h' ∧ Has fr' 35 [(1, .ptr (some (h.size, 0))), (21, .bool x4)]) ?_ ?_
    · rcases iteB_some ho with ⟨hb, hm⟩ | ⟨hb, hm⟩
      · replace H := H.know 14 hb (by kernel_rfl)
        refine at_seg [(10, []), (11, []), (12, []), (13, []), (14, []), (15, []), (16, [])] [(1, .ptr (some (h.size, 0))), (21, .bool true)] H (noU_all rfl) (fun fr => by kernel_rfl) ?_
        intro fr H
        have e1 := Option.some.inj hm
        subst e1
        exact at_nil ⟨rfl, H.less _ (fun fr => by kernel_rfl)⟩
      · replace H := H.know 14 hb (by kernel_rfl)
        refine at_seg [(10, [])] [(1, .ptr (some (h.size, 0))), (14, .bool false), (15, .ptr (some (h.size, 1)))] H (noU_all rfl) (fun fr => by kernel_rfl) ?_
        intro fr H
        obtain ⟨x5, hx, hm⟩ := bind_some hm
        refine at_step (v := .int .i64 x5) (h1 := h1) [(1, .ptr (some (h.size, 0))), (14, .bool false), (16, .int .i64 x5)] H (fun fr => by kernel_rfl) (fun fr => .of (s_ld (by kernel_rfl) (ldI_eq hx))) ?_
        intro fr t H
        refine at_seg [(12, [])] [(1, .ptr (some (h.size, 0))), (14, .bool false), (16, .int .i64 x5), (17, .ptr (some (h.size, 0)))] H (noU_all rfl) (fun fr => by kernel_rfl) ?_
        intro fr H
        obtain ⟨x6, hx, hm⟩ := bind_some hm
        refine at_step (v := .slice x6.r x6.n) (h1 := h1) [(1, .ptr (some (h.size, 0))), (14, .bool false), (16, .int .i64 x5), (18, .slice x6.r x6.n)] H (fun fr => by kernel_rfl) (fun fr => .of (s_ld (by kernel_rfl) (ldL_eq hx))) ?_
        intro fr t H
        refine at_seg [(14, []), (15, []), (16, [])] [(1, .ptr (some (h.size, 0))), (21, .bool (decide (x5 ≥ ((x6.n : Nat) : Int))))] H (noU_all rfl) (fun fr => by kernel_rfl) ?_
        intro fr H
        have e1 := Option.some.inj hm
        subst e1
        exact at_nil ⟨rfl, H.less _ (fun fr => by kernel_rfl)⟩
    · intro t fr h' hK
      obtain ⟨e, H⟩ := hK
      subst e
      refine at_nil ?_
      show AW cfg 11 (⟨h.size, []⟩ : Gd) (right (left (right (bodyC cfg.P 11)))) fr h1 _
      rcases iteB_some hm with ⟨hb, hm⟩ | ⟨hb, hm⟩
      · replace H := H.know 21 hb (by kernel_rfl)
        refine aw_true (x := .tmp 21) (by kernel_rfl) H (fun fr => by kernel_rfl) ?_
        refine aw_seq (by kernel_rfl) ?_
        refine aw_reg (id := 2) (n := 1) [(0, [])] (by kernel_rfl) (by kernel_rfl) ?_
        refine at_seg [(0, [])] [(2, .bool false)] H (noU_all rfl) (fun fr => by kernel_rfl) ?_
        intro fr H
        refine at_nil ?_
        show AW cfg 11 (⟨h.size, []⟩ : Gd) (right (left (right (left (right (bodyC cfg.P 11)))))) fr h1 _
        refine aw_ret (by kernel_rfl) ?_
        have e1 := Option.some.inj hm
        subst e1
        exact (doneE_of .ret H (fun fr => by kernel_rfl) (.inl rfl) : doneE cfg.P _ _ _ fr _)
      · replace H := H.know 21 hb (by kernel_rfl)
        refine aw_false (x := .tmp 21) (by kernel_rfl) H (fun fr => by kernel_rfl) ?_
        refine aw_skip (by kernel_rfl) ?_
        show AW cfg 11 (⟨h.size, []⟩ : Gd) (right (right (bodyC cfg.P 11))) fr h1 _
        refine aw_seq (by kernel_rfl) ?_
        refine aw_seq (by kernel_rfl) ?_
        refine aw_reg (id := 3) (n := 4) [(0, []), (1, []), (2, []), (3, [])] (by kernel_rfl) (by kernel_rfl) ?_
        refine at_seg [(0, [])] [(22, .ptr (some (h.size, 0)))] H (noU_all rfl) (fun fr => by kernel_rfl) ?_
        intro fr H
        obtain ⟨x7, hx, hm⟩ := bind_some hm
        refine at_step (v := .slice x7.r x7.n) (h1 := h1) [(23, .slice x7.r x7.n)] H (fun fr => by kernel_rfl) (fun fr => .of (s_ld (by kernel_rfl) (ldL_eq hx))) ?_
        intro fr t H
        refine at_seg [(2, []), (3, [])] [(23, .slice x7.r x7.n), (24, .int .i64 ((x7.n : Nat) : Int)), (25, .int .i64 (0 : Int))] H (noU_all rfl) (fun fr => by kernel_rfl) ?_
        intro fr H
        refine at_nil ?_
        show AW cfg 11 (⟨h.size, []⟩ : Gd) (right (left (right (right (bodyC cfg.P 11))))) fr h1 _
        refine aw_block (id := 0) (by kernel_rfl) ?_
        obtain ⟨o1, ho, hm⟩ := bind_some hm
        refine aw_mono (Q' := fun e fr' h' => (e = .exit 0 ∧ .inl h' = o1 ∧ h' = h' ∧ Has fr' 35 []) ∨ (∃ (x9 : Bool), e = .ret ∧ .inr (x9, h') = o1 ∧ h' = h' ∧ Has fr' 35 [(2, .bool x9)]) ∨ False) ?_ ?_
        · refine aw_loop (by kernel_rfl) (fun (s : Int × AHeap) fr' h' => ∃ (x10 : Int), (x10, h') = s ∧ h' = h' ∧ Has fr' 35 [(23, .slice x7.r x7.n), (24, .int .i64 ((x7.n : Nat) : Int)), (25, .int .i64 x10)]) ho ⟨(0 : Int), rfl, rfl, H.less _ (fun fr => by kernel_rfl)⟩ ?_
          clear ho hm H
          intro s q fr h2 hI hm
          obtain ⟨x10, rfl, _, H⟩ := hI
          unfold M_tree_Tree_Right_L0 at hm
          refine aw_seq (by kernel_rfl) ?_
          refine aw_reg (id := 4) (n := 1) [(0, [])] (by kernel_rfl) (by kernel_rfl) ?_
          refine at_seg [(0, [])] [(23, .slice x7.r x7.n), (24, .int .i64 ((x7.n : Nat) : Int)), (25, .int .i64 x10), (26, .bool (decide (x10 < ((x7.n : Nat) : Int))))] H (noU_all rfl) (fun fr => by kernel_rfl) ?_
          intro fr H
          refine at_nil ?_
          show AW cfg 11 (⟨h.size, []⟩ : Gd) (right (left (left (right (left (right (right (bodyC cfg.P 11)))))))) fr h2 _
          refine aw_seq (by kernel_rfl) ?_
          rcases iteB_some hm with ⟨hb, hm⟩ | ⟨hb, hm⟩
          · replace H := H.know 26 hb (by kernel_rfl)
            refine aw_true (x := .tmp 26) (by kernel_rfl) H (fun fr => by kernel_rfl) ?_
            refine aw_skip (by kernel_rfl) ?_
            show AW cfg 11 (⟨h.size, []⟩ : Gd) (right (right (left (left (right (left (right (right (bodyC cfg.P 11))))))))) fr h2 _
            refine aw_seq (by kernel_rfl) ?_
            refine aw_block (id := 1) (by kernel_rfl) ?_
            refine aw_seq (by kernel_rfl) ?_
            refine aw_reg (id := 5) (n := 6) [(0, []), (1, []), (2, []), (3, []), (4, []), (5, [])] (by kernel_rfl) (by kernel_rfl) ?_
            refine at_seg [(0, [])] [(23, .slice x7.r x7.n), (24, .int .i64 ((x7.n : Nat) : Int)), (25, .int .i64 x10), (27, .int .i64 x10)] H (noU_all rfl) (fun fr => by kernel_rfl) ?_
            intro fr H
            obtain ⟨a1, hx, hm⟩ := bind_some hm
            refine at_step (v := .ptr (some a1)) (h1 := h2) [(23, .slice x7.r x7.n), (24, .int .i64 ((x7.n : Nat) : Int)), (25, .int .i64 x10), (27, .int .i64 x10), (28, .ptr (some (a1.1, a1.2)))] H (fun fr => by kernel_rfl) (fun fr => .of (s_ixL (s := x7) (by kernel_rfl) hx)) ?_
            intro fr t H
            obtain ⟨x11, hx, hm⟩ := bind_some hm
            refine at_step (v := .agg x11) (h1 := h2) [(23, .slice x7.r x7.n), (24, .int .i64 ((x7.n : Nat) : Int)), (25, .int .i64 x10), (27, .int .i64 x10), (29, .agg x11)] H (fun fr => by kernel_rfl) (fun fr => .of (s_ldA (by kernel_rfl) hx)) ?_
            intro fr t H
            obtain ⟨h3, hx, hm⟩ := bind_some hm
            refine at_step (v := .ptr (some (h2.size, 0))) (h1 := h3) [(4, .ptr (some (h2.size, 0))), (23, .slice x7.r x7.n), (24, .int .i64 ((x7.n : Nat) : Int)), (25, .int .i64 x10), (27, .int .i64 x10), (29, .agg x11)] H (fun fr => by kernel_rfl) (fun fr => .of (s_n' (by kernel_rfl) hx)) ?_
            intro fr t H
            refine at_seg [(4, [])] [(3, .int .i64 x10), (4, .ptr (some (h2.size, 0))), (23, .slice x7.r x7.n), (24, .int .i64 ((x7.n : Nat) : Int)), (25, .int .i64 x10), (29, .agg x11)] H (noU_all rfl) (fun fr => by kernel_rfl) ?_
            intro fr H
            obtain ⟨h4, hx, hm⟩ := bind_some hm
            refine at_step (v := .tuple []) (h1 := h4) [(3, .int .i64 x10), (4, .ptr (some (h2.size, 0))), (23, .slice x7.r x7.n), (24, .int .i64 ((x7.n : Nat) : Int)), (25, .int .i64 x10)] H (fun fr => by kernel_rfl) (fun fr => .of (s_stG (by kernel_rfl) hx)) ?_
            intro fr t H
            refine at_nil ?_
            show AW cfg 11 (⟨h.size, []⟩ : Gd) (right (left (left (right (right (left (left (right (left (right (right (bodyC cfg.P 11)))))))))))) fr h4 _
            refine aw_seq (by kernel_rfl) ?_
            refine aw_reg (id := 6) (n := 4) [(0, []), (1, []), (2, []), (3, [])] (by kernel_rfl) (by kernel_rfl) ?_
            obtain ⟨x12, hx, hm⟩ := bind_some hm
            refine at_step (v := .agg x12) (h1 := h4) [(3, .int .i64 x10), (23, .slice x7.r x7.n), (24, .int .i64 ((x7.n : Nat) : Int)), (25, .int .i64 x10), (30, .agg x12)] H (fun fr => by kernel_rfl) (fun fr => .of (s_ldA (by kernel_rfl) hx)) ?_
            intro fr t H
            refine at_seg [(1, [])] [(23, .slice x7.r x7.n), (24, .int .i64 ((x7.n : Nat) : Int)), (25, .int .i64 x10), (30, .agg x12), (31, .int .i64 x10)] H (noU_all rfl) (fun fr => by kernel_rfl) ?_
            intro fr H
            obtain ⟨x13, hx, hm⟩ := bind_some hm
            refine at_step (v := .bool x13) (h1 := h4) [(23, .slice x7.r x7.n), (24, .int .i64 ((x7.n : Nat) : Int)), (25, .int .i64 x10), (32, .bool x13)] H (fun fr => by kernel_rfl) (fun fr => Steps.call (by kernel_rfl) (ok_tree_may hx)) ?_
            intro fr t H
            refine at_seg [(3, [])] [(23, .slice x7.r x7.n), (24, .int .i64 ((x7.n : Nat) : Int)), (25, .int .i64 x10), (33, .bool (!x13))] H (noU_all rfl) (fun fr => by kernel_rfl) ?_
            intro fr H
            refine at_nil ?_
            show AW cfg 11 (⟨h.size, []⟩ : Gd) (right (right (left (left (right (right (left (left (right (left (right (right (bodyC cfg.P 11))))))))))))) fr h4 _
            rcases iteB_some hm with ⟨hb, hm⟩ | ⟨hb, hm⟩
            · replace H := H.know 33 hb (by kernel_rfl)
              refine aw_true (x := .tmp 33) (by kernel_rfl) H (fun fr => by kernel_rfl) ?_
              refine aw_seq (by kernel_rfl) ?_
              refine aw_reg (id := 7) (n := 1) [(0, [])] (by kernel_rfl) (by kernel_rfl) ?_
              refine at_seg [(0, [])] [(2, .bool false)] H (noU_all rfl) (fun fr => by kernel_rfl) ?_
              intro fr H
              refine at_nil ?_
              show AW cfg 11 (⟨h.size, []⟩ : Gd) (right (left (right (right (left (left (right (right (left (left (right (left (right (right (bodyC cfg.P 11))))))))))))))) fr h4 _
              refine aw_ret (by kernel_rfl) ?_
              exact Exists.intro _ (And.intro (Option.some.inj hm).symm (fun e => Or.inr (Or.inl ⟨false, rfl, e, rfl, H.less _ (fun fr => by kernel_rfl)⟩)))
            · replace H := H.know 33 hb (by kernel_rfl)
              refine aw_false (x := .tmp 33) (by kernel_rfl) H (fun fr => by kernel_rfl) ?_
              refine aw_skip (by kernel_rfl) ?_
              show AW cfg 11 (⟨h.size, []⟩ : Gd) (right (right (right (left (left (right (left (right (right (bodyC cfg.P 11)))))))))) fr h4 _
              refine aw_reg (id := 8) (n := 2) [(0, []), (1, [])] (by kernel_rfl) (by kernel_rfl) ?_
              refine at_seg [(0, []), (1, [])] [(23, .slice x7.r x7.n), (24, .int .i64 ((x7.n : Nat) : Int)), (25, .int .i64 (IntKind.i64.wrap (x10 + (1 : Int))))] H (noU_all rfl) (fun fr => by kernel_rfl) ?_
              intro fr H
              refine at_nil ?_
              exact Exists.intro (IntKind.i64.wrap (x10 + (1 : Int)), h4) (And.intro (Option.some.inj hm).symm ⟨IntKind.i64.wrap (x10 + (1 : Int)), rfl, rfl, H.less _ (fun fr => by kernel_rfl)⟩)
          · replace H := H.know 26 hb (by kernel_rfl)
            refine aw_false (x := .tmp 26) (by kernel_rfl) H (fun fr => by kernel_rfl) ?_
            refine aw_exit (i := 0) (by kernel_rfl) ?_
            exact Exists.intro _ (And.intro (Option.some.inj hm).symm (fun e => Or.inl ⟨rfl, e, rfl, H.less _ (fun fr => by kernel_rfl)⟩))
        · clear ho
          intro e fr h5 hQ
          rcases hQ with ⟨rfl, rfl, _, H⟩ | ⟨x9, rfl, rfl, _, H⟩ | hF
          · skip
            show AW cfg 11 (⟨h.size, []⟩ : Gd) (right (right (right (bodyC cfg.P 11)))) fr h5 _
            refine aw_seq (by kernel_rfl) ?_
            refine aw_reg (id := 9) (n := 1) [(0, [])] (by kernel_rfl) (by kernel_rfl) ?_
            refine at_seg [(0, [])] [(2, .bool true)] H (noU_all rfl) (fun fr => by kernel_rfl) ?_
            intro fr H
            refine at_nil ?_
            show AW cfg 11 (⟨h.size, []⟩ : Gd) (right (right (right (right (bodyC cfg.P 11))))) fr h5 _
            refine aw_ret (by kernel_rfl) ?_
            have e1 := Option.some.inj hm
            subst e1
            exact (doneE_of .ret H (fun fr => by kernel_rfl) (.inl rfl) : doneE cfg.P _ _ _ fr _)
          · skip
            have e1 := Option.some.inj hm
            subst e1
            exact (doneE_of .ret H (fun fr => by kernel_rfl) (.inl rfl) : doneE cfg.P _ _ _ fr _)
          · exact hF.elim
end Go.Abs.L
