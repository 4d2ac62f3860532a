/-
  Models of functions of package ref30, and that the abstract run tells them. Written by lift.py.
-/
import Derived.Test.YtimjggadeingjaaLCfg
namespace Go.Abs.L
open Go.Abs
set_option linter.unusedVariables false
/-! ### boulter/boulterref30.Take -/
noncomputable def M_boulterref30_Take_L0 (g : Gd) (p0 : Sl) (p1 : Int) (s : Sl × Int × AHeap) : Option ((Sl × Int × AHeap) ⊕ ((Sl × AHeap))) :=
  match s with
  | (x4, x5, h2) => iteB (decide (x5 < ((p0.n : Nat) : Int))) ((ixL p0 1 x5).bind fun a1 => (ldI h2 (a1.1, a1.2) .i64).bind fun x6 => (iteB (x5 == p1) (some (IntKind.i64.wrap (x6 + (1 : Int)))) (some x6) : Option ((Int))).bind fun x7 => (some (h2.push (.cells (some 3) 2 [.int .i64 x7]))).bind fun h3 => (app 3 1 8 g h3 x4 1 (.slice (some (h2.size, 0)) 1)).bind fun (x8, h4) => some (.inl (x8, IntKind.i64.wrap (x5 + (1 : Int)), h4))) (some (.inr (x4, h2)))
noncomputable def M_boulterref30_Take (g : Gd) (h : AHeap) (p0 : Sl) (p1 : Int) : Option ((Sl) × AHeap) :=
 (some (h.push (.cells (some 3) 2 []))).bind fun h1 => (loop (M_boulterref30_Take_L0 g p0 p1) ((⟨some (h.size, 0), 0⟩ : Sl), (0 : Int), h1)).bind fun (x3, h5) => some (x3, h5)
theorem ok_boulterref30_Take {g : Gd} {h h' : AHeap} {p0 : Sl} {p1 : Int} {r0 : Sl} (hm : M_boulterref30_Take g h p0 p1 = some (r0, h')) : Runs cfg g h 11 [.slice p0.r p0.n, .int .i64 p1] (.slice r0.r r0.n) h' := by
  refine runs1 (by kernel_rfl) (body_of (n := 29) (rs := [.tmp 4]) (by kernel_rfl) ?_)
  unfold M_boulterref30_Take at hm
  refine start (n := 29) [(0, .slice p0.r p0.n), (1, .int .i64 p1)] (by kernel_rfl) (by kernel_rfl) ?_
  intro fr H
  refine aw_seq (by kernel_rfl) ?_
  refine aw_reg (id := 0) (n := 1) [(0, [])] (by kernel_rfl) (by kernel_rfl) ?_
  refine at_seg [(0, [])] [(0, .slice p0.r p0.n), (1, .int .i64 p1)] H (noU_all rfl) (fun fr => by kernel_rfl) ?_
  intro fr H
  refine at_nil ?_
  show AW cfg 11 g (right (bodyC cfg.P 11)) fr h _
  refine aw_seq (by kernel_rfl) ?_
  refine aw_reg (id := 1) (n := 2) [(0, []), (1, [])] (by kernel_rfl) (by kernel_rfl) ?_
  obtain ⟨h1, hx, hm⟩ := bind_some hm
  refine at_step (v := .slice (some (h.size, 0)) 0) (h1 := h1) [(0, .slice p0.r p0.n), (1, .int .i64 p1), (8, .slice (some (h.size, 0)) 0)] H (fun fr => by kernel_rfl) (fun fr => .of (s_n' (by kernel_rfl) hx)) ?_
  intro fr t H
  refine at_seg [(1, [])] [(0, .slice p0.r p0.n), (1, .int .i64 p1), (5, .slice (some (h.size, 0)) 0)] H (noU_all rfl) (fun fr => by kernel_rfl) ?_
  intro fr H
  refine at_nil ?_
  show AW cfg 11 g (right (right (bodyC cfg.P 11))) fr h1 _
  refine aw_seq (by kernel_rfl) ?_
  refine aw_seq (by kernel_rfl) ?_
  refine aw_reg (id := 2) (n := 1) [(0, [])] (by kernel_rfl) (by kernel_rfl) ?_
  refine at_seg [(0, [])] [(0, .slice p0.r p0.n), (1, .int .i64 p1), (5, .slice (some (h.size, 0)) 0), (6, .int .i64 (0 : Int))] H (noU_all rfl) (fun fr => by kernel_rfl) ?_
  intro fr H
  refine at_nil ?_
  show AW cfg 11 g (right (left (right (right (bodyC cfg.P 11))))) fr h1 _
  refine aw_block (id := 0) (by kernel_rfl) ?_
  obtain ⟨o1, ho, hm⟩ := bind_some hm
  refine aw_mono (Q' := fun e fr' h' => (∃ (x3 : Sl), e = .exit 0 ∧ (x3, h') = o1 ∧ h' = h' ∧ Has fr' 29 [(5, .slice x3.r x3.n)]) ∨ False) ?_ ?_
  · refine aw_loop (by kernel_rfl) (fun (s : Sl × Int × AHeap) fr' h' => ∃ (x4 : Sl) (x5 : Int), (x4, x5, h') = s ∧ h' = h' ∧ Has fr' 29 [(0, .slice p0.r p0.n), (1, .int .i64 p1), (5, .slice x4.r x4.n), (6, .int .i64 x5)]) ho ⟨(⟨some (h.size, 0), 0⟩ : Sl), (0 : Int), rfl, rfl, H.less _ (fun fr => by kernel_rfl)⟩ ?_
    clear ho hm H
    intro s q fr h2 hI hm
    obtain ⟨x4, x5, rfl, _, H⟩ := hI
    unfold M_boulterref30_Take_L0 at hm
    refine aw_seq (by kernel_rfl) ?_
    refine aw_seq (by kernel_rfl) ?_
    refine aw_reg (id := 3) (n := 4) [(0, []), (1, []), (2, []), (3, [])] (by kernel_rfl) (by kernel_rfl) ?_
    refine at_seg [(0, []), (1, []), (2, []), (3, [])] [(0, .slice p0.r p0.n), (1, .int .i64 p1), (5, .slice x4.r x4.n), (6, .int .i64 x5), (12, .bool (decide (x5 < ((p0.n : Nat) : Int))))] H (noU_all rfl) (fun fr => by kernel_rfl) ?_
    intro fr H
    refine at_nil ?_
    show AW cfg 11 g (right (left (left (left (right (left (right (right (bodyC cfg.P 11))))))))) fr h2 _
    rcases iteB_some hm with ⟨hb, hm⟩ | ⟨hb, hm⟩
    · rw [hb] at H
      refine aw_true (x := .tmp 12) (by kernel_rfl) H (fun fr => by kernel_rfl) ?_
      refine aw_skip (by kernel_rfl) ?_
      show AW cfg 11 g (right (left (left (right (left (right (right (bodyC cfg.P 11)))))))) fr h2 _
      refine aw_seq (by kernel_rfl) ?_
      refine aw_block (id := 1) (by kernel_rfl) ?_
      refine aw_seq (by kernel_rfl) ?_
      refine aw_reg (id := 5) (n := 5) [(0, []), (1, []), (2, []), (3, []), (4, [])] (by kernel_rfl) (by kernel_rfl) ?_
      refine at_seg [(0, []), (1, [])] [(0, .slice p0.r p0.n), (1, .int .i64 p1), (5, .slice x4.r x4.n), (6, .int .i64 x5), (15, .slice p0.r p0.n), (16, .int .i64 x5)] H (noU_all rfl) (fun fr => by kernel_rfl) ?_
      intro fr H
      obtain ⟨a1, hx, hm⟩ := bind_some hm
      refine at_step (v := .ptr (some a1)) (h1 := h2) [(0, .slice p0.r p0.n), (1, .int .i64 p1), (5, .slice x4.r x4.n), (6, .int .i64 x5), (17, .ptr (some (a1.1, a1.2)))] H (fun fr => by kernel_rfl) (fun fr => .of (s_ixL (s := p0) (by kernel_rfl) hx)) ?_
      intro fr t H
      obtain ⟨x6, hx, hm⟩ := bind_some hm
      refine at_step (v := .int .i64 x6) (h1 := h2) [(0, .slice p0.r p0.n), (1, .int .i64 p1), (5, .slice x4.r x4.n), (6, .int .i64 x5), (18, .int .i64 x6)] H (fun fr => by kernel_rfl) (fun fr => .of (s_ld (by kernel_rfl) (ldI_eq hx))) ?_
      intro fr t H
      refine at_seg [(4, [])] [(0, .slice p0.r p0.n), (1, .int .i64 p1), (5, .slice x4.r x4.n), (6, .int .i64 x5), (7, .int .i64 x6)] H (noU_all rfl) (fun fr => by kernel_rfl) ?_
      intro fr H
      refine at_nil ?_
      show AW cfg 11 g (right (left (left (right (left (left (right (left (right (right (bodyC cfg.P 11))))))))))) fr h2 _
      refine aw_seq (by kernel_rfl) ?_
      obtain ⟨o2, ho, hm⟩ := bind_some hm
      refine aw_mono (Q' := fun e fr' h' => (∃ (x7 : Int), e = .normal ∧ x7 = o2 ∧ h2 = h' ∧ Has fr' 29 [(0, .slice p0.r p0.n), (1, .int .i64 p1), (5, .slice x4.r x4.n), (6, .int .i64 x5), (7, .int .i64 x7)]) ∨ False) ?_ ?_
      · replace hm := ho
        clear ho
        refine aw_seq (by kernel_rfl) ?_
        refine aw_reg (id := 6) (n := 3) [(0, []), (1, []), (2, [])] (by kernel_rfl) (by kernel_rfl) ?_
        refine at_seg [(0, []), (1, []), (2, [])] [(0, .slice p0.r p0.n), (1, .int .i64 p1), (5, .slice x4.r x4.n), (6, .int .i64 x5), (7, .int .i64 x6), (21, .bool (x5 == p1))] H (noU_all rfl) (fun fr => by kernel_rfl) ?_
        intro fr H
        refine at_nil ?_
        show AW cfg 11 g (right (left (right (left (left (right (left (left (right (left (right (right (bodyC cfg.P 11))))))))))))) fr h2 _
        rcases iteB_some hm with ⟨hb, hm⟩ | ⟨hb, hm⟩
        · rw [hb] at H
          refine aw_true (x := .tmp 21) (by kernel_rfl) H (fun fr => by kernel_rfl) ?_
          refine aw_reg (id := 7) (n := 3) [(0, []), (1, []), (2, [])] (by kernel_rfl) (by kernel_rfl) ?_
          refine at_seg [(0, []), (1, []), (2, [])] [(0, .slice p0.r p0.n), (1, .int .i64 p1), (5, .slice x4.r x4.n), (6, .int .i64 x5), (7, .int .i64 (IntKind.i64.wrap (x6 + (1 : Int))))] H (noU_all rfl) (fun fr => by kernel_rfl) ?_
          intro fr H
          refine at_nil ?_
          exact Or.inl ⟨IntKind.i64.wrap (x6 + (1 : Int)), rfl, Option.some.inj hm, rfl, H.less _ (fun fr => by kernel_rfl)⟩
        · rw [hb] at H
          refine aw_false (x := .tmp 21) (by kernel_rfl) H (fun fr => by kernel_rfl) ?_
          refine aw_skip (by kernel_rfl) ?_
          exact Or.inl ⟨x6, rfl, Option.some.inj hm, rfl, H.less _ (fun fr => by kernel_rfl)⟩
      · clear ho
        intro e fr hz hQ
        rcases hQ with ⟨x7, rfl, rfl, rfl, H⟩ | hF
        · skip
          show AW cfg 11 g (right (right (left (left (right (left (left (right (left (right (right (bodyC cfg.P 11)))))))))))) fr h2 _
          refine aw_reg (id := 8) (n := 5) [(0, []), (1, []), (2, []), (3, []), (4, [])] (by kernel_rfl) (by kernel_rfl) ?_
          refine at_seg [(0, []), (1, [])] [(0, .slice p0.r p0.n), (1, .int .i64 p1), (6, .int .i64 x5), (24, .slice x4.r x4.n), (25, .int .i64 x7)] H (noU_all rfl) (fun fr => by kernel_rfl) ?_
          intro fr H
          obtain ⟨h3, hx, hm⟩ := bind_some hm
          refine at_step (v := .slice (some (h2.size, 0)) 1) (h1 := h3) [(0, .slice p0.r p0.n), (1, .int .i64 p1), (6, .int .i64 x5), (24, .slice x4.r x4.n), (26, .slice (some (h2.size, 0)) 1)] H (fun fr => by kernel_rfl) (fun fr => .of (s_n' (by kernel_rfl) hx)) ?_
          intro fr t H
          obtain ⟨⟨x8, h4⟩, hx, hm⟩ := bind_some hm
          refine at_step (v := .slice x8.r x8.n) (h1 := h4) [(0, .slice p0.r p0.n), (1, .int .i64 p1), (6, .int .i64 x5), (27, .slice x8.r x8.n)] H (fun fr => by kernel_rfl) (fun fr => .of (s_app (s := x4) (by kernel_rfl) hx)) ?_
          intro fr t H
          refine at_seg [(4, [])] [(0, .slice p0.r p0.n), (1, .int .i64 p1), (5, .slice x8.r x8.n), (6, .int .i64 x5)] H (noU_all rfl) (fun fr => by kernel_rfl) ?_
          intro fr H
          refine at_nil ?_
          show AW cfg 11 g (right (right (left (left (right (left (right (right (bodyC cfg.P 11))))))))) fr h4 _
          refine aw_reg (id := 4) (n := 3) [(0, []), (1, []), (2, [])] (by kernel_rfl) (by kernel_rfl) ?_
          refine at_seg [(0, []), (1, []), (2, [])] [(0, .slice p0.r p0.n), (1, .int .i64 p1), (5, .slice x8.r x8.n), (6, .int .i64 (IntKind.i64.wrap (x5 + (1 : Int))))] H (noU_all rfl) (fun fr => by kernel_rfl) ?_
          intro fr H
          refine at_nil ?_
          exact Exists.intro (x8, IntKind.i64.wrap (x5 + (1 : Int)), h4) (And.intro (Option.some.inj hm).symm ⟨x8, IntKind.i64.wrap (x5 + (1 : Int)), rfl, rfl, H.less _ (fun fr => by kernel_rfl)⟩)
        · exact hF.elim
    · rw [hb] at H
      refine aw_false (x := .tmp 12) (by kernel_rfl) H (fun fr => by kernel_rfl) ?_
      refine aw_exit (i := 0) (by kernel_rfl) ?_
      exact Exists.intro _ (And.intro (Option.some.inj hm).symm (fun e => Or.inl ⟨x4, rfl, e, rfl, H.less _ (fun fr => by kernel_rfl)⟩))
  · clear ho
    intro e fr h5 hQ
    rcases hQ with ⟨x3, rfl, rfl, _, H⟩ | hF
    · skip
      show AW cfg 11 g (right (right (right (bodyC cfg.P 11)))) fr h5 _
      refine aw_seq (by kernel_rfl) ?_
      refine aw_reg (id := 9) (n := 2) [(0, []), (1, [])] (by kernel_rfl) (by kernel_rfl) ?_
      refine at_seg [(0, []), (1, [])] [(4, .slice x3.r x3.n)] H (noU_all rfl) (fun fr => by kernel_rfl) ?_
      intro fr H
      refine at_nil ?_
      show AW cfg 11 g (right (right (right (right (bodyC cfg.P 11))))) fr h5 _
      refine aw_ret (by kernel_rfl) ?_
      obtain ⟨e1, e2⟩ := inj2 hm
      subst e2
      subst e1
      exact (done_ret H (fun fr => by kernel_rfl) rfl : doneQ cfg.P _ _ _ _ fr _)
    · exact hF.elim
/-! ### boulter/boulterref30.Missing -/
noncomputable def M_boulterref30_Missing_L0 (g : Gd) (p0 : Sl) (p1 : Int) (s : Sl × Int × AHeap) : Option ((Sl × Int × AHeap) ⊕ ((Sl × AHeap))) :=
  match s with
  | (x4, x5, h2) => iteB (decide (x5 < ((p0.n : Nat) : Int))) (((ixL p0 1 x5).bind fun a1 => (ldI h2 (a1.1, a1.2) .i64).bind fun x7 => (iteB (x7 == (0 : Int)) (some true) ((ixL p0 1 x5).bind fun a2 => (ldI h2 (a2.1, a2.2) .i64).bind fun x9 => some (decide (x9 < p1))) : Option (Bool)).bind fun x8 => iteB x8 ((some (h2.push (.cells (some 3) 2 [.int .i64 x5]))).bind fun h3 => (app 3 1 8 g h3 x4 1 (.slice (some (h2.size, 0)) 1)).bind fun (x10, h4) => some (x10, h4)) (some (x4, h2)) : Option ((Sl × AHeap))).bind fun (x6, h5) => some (.inl (x6, IntKind.i64.wrap (x5 + (1 : Int)), h5))) (some (.inr (x4, h2)))
noncomputable def M_boulterref30_Missing (g : Gd) (h : AHeap) (p0 : Sl) (p1 : Int) : Option ((Sl) × AHeap) :=
 (some (h.push (.cells (some 3) 2 []))).bind fun h1 => (loop (M_boulterref30_Missing_L0 g p0 p1) ((⟨some (h.size, 0), 0⟩ : Sl), (0 : Int), h1)).bind fun (x3, h6) => some (x3, h6)
theorem ok_boulterref30_Missing {g : Gd} {h h' : AHeap} {p0 : Sl} {p1 : Int} {r0 : Sl} (hm : M_boulterref30_Missing g h p0 p1 = some (r0, h')) : Runs cfg g h 14 [.slice p0.r p0.n, .int .i64 p1] (.slice r0.r r0.n) h' := by
  refine runs1 (by kernel_rfl) (body_of (n := 32) (rs := [.tmp 4]) (by kernel_rfl) ?_)
  unfold M_boulterref30_Missing at hm
  refine start (n := 32) [(0, .slice p0.r p0.n), (1, .int .i64 p1)] (by kernel_rfl) (by kernel_rfl) ?_
  intro fr H
  refine aw_seq (by kernel_rfl) ?_
  refine aw_reg (id := 0) (n := 1) [(0, [])] (by kernel_rfl) (by kernel_rfl) ?_
  refine at_seg [(0, [])] [(0, .slice p0.r p0.n), (1, .int .i64 p1)] H (noU_all rfl) (fun fr => by kernel_rfl) ?_
  intro fr H
  refine at_nil ?_
  show AW cfg 14 g (right (bodyC cfg.P 14)) fr h _
  refine aw_seq (by kernel_rfl) ?_
  refine aw_reg (id := 1) (n := 2) [(0, []), (1, [])] (by kernel_rfl) (by kernel_rfl) ?_
  obtain ⟨h1, hx, hm⟩ := bind_some hm
  refine at_step (v := .slice (some (h.size, 0)) 0) (h1 := h1) [(0, .slice p0.r p0.n), (1, .int .i64 p1), (7, .slice (some (h.size, 0)) 0)] H (fun fr => by kernel_rfl) (fun fr => .of (s_n' (by kernel_rfl) hx)) ?_
  intro fr t H
  refine at_seg [(1, [])] [(0, .slice p0.r p0.n), (1, .int .i64 p1), (5, .slice (some (h.size, 0)) 0)] H (noU_all rfl) (fun fr => by kernel_rfl) ?_
  intro fr H
  refine at_nil ?_
  show AW cfg 14 g (right (right (bodyC cfg.P 14))) fr h1 _
  refine aw_seq (by kernel_rfl) ?_
  refine aw_seq (by kernel_rfl) ?_
  refine aw_reg (id := 2) (n := 1) [(0, [])] (by kernel_rfl) (by kernel_rfl) ?_
  refine at_seg [(0, [])] [(0, .slice p0.r p0.n), (1, .int .i64 p1), (5, .slice (some (h.size, 0)) 0), (6, .int .i64 (0 : Int))] H (noU_all rfl) (fun fr => by kernel_rfl) ?_
  intro fr H
  refine at_nil ?_
  show AW cfg 14 g (right (left (right (right (bodyC cfg.P 14))))) fr h1 _
  refine aw_block (id := 0) (by kernel_rfl) ?_
  obtain ⟨o1, ho, hm⟩ := bind_some hm
  refine aw_mono (Q' := fun e fr' h' => (∃ (x3 : Sl), e = .exit 0 ∧ (x3, h') = o1 ∧ h' = h' ∧ Has fr' 32 [(5, .slice x3.r x3.n)]) ∨ False) ?_ ?_
  · refine aw_loop (by kernel_rfl) (fun (s : Sl × Int × AHeap) fr' h' => ∃ (x4 : Sl) (x5 : Int), (x4, x5, h') = s ∧ h' = h' ∧ Has fr' 32 [(0, .slice p0.r p0.n), (1, .int .i64 p1), (5, .slice x4.r x4.n), (6, .int .i64 x5)]) ho ⟨(⟨some (h.size, 0), 0⟩ : Sl), (0 : Int), rfl, rfl, H.less _ (fun fr => by kernel_rfl)⟩ ?_
    clear ho hm H
    intro s q fr h2 hI hm
    obtain ⟨x4, x5, rfl, _, H⟩ := hI
    unfold M_boulterref30_Missing_L0 at hm
    refine aw_seq (by kernel_rfl) ?_
    refine aw_seq (by kernel_rfl) ?_
    refine aw_reg (id := 3) (n := 4) [(0, []), (1, []), (2, []), (3, [])] (by kernel_rfl) (by kernel_rfl) ?_
    refine at_seg [(0, []), (1, []), (2, []), (3, [])] [(0, .slice p0.r p0.n), (1, .int .i64 p1), (5, .slice x4.r x4.n), (6, .int .i64 x5), (11, .bool (decide (x5 < ((p0.n : Nat) : Int))))] H (noU_all rfl) (fun fr => by kernel_rfl) ?_
    intro fr H
    refine at_nil ?_
    show AW cfg 14 g (right (left (left (left (right (left (right (right (bodyC cfg.P 14))))))))) fr h2 _
    rcases iteB_some hm with ⟨hb, hm⟩ | ⟨hb, hm⟩
    · rw [hb] at H
      refine aw_true (x := .tmp 11) (by kernel_rfl) H (fun fr => by kernel_rfl) ?_
      refine aw_skip (by kernel_rfl) ?_
      show AW cfg 14 g (right (left (left (right (left (right (right (bodyC cfg.P 14)))))))) fr h2 _
      refine aw_seq (by kernel_rfl) ?_
      obtain ⟨o2, ho, hm⟩ := bind_some hm
      refine aw_mono (Q' := fun e fr' h' => (∃ (x6 : Sl), e = .normal ∧ (x6, h') = o2 ∧ h' = h' ∧ Has fr' 32 [(0, .slice p0.r p0.n), (1, .int .i64 p1), (5, .slice x6.r x6.n), (6, .int .i64 x5)]) ∨ False) ?_ ?_
      · replace hm := ho
        clear ho
        refine aw_block (id := 1) (by kernel_rfl) ?_
        refine aw_seq (by kernel_rfl) ?_
        refine aw_reg (id := 5) (n := 13) [(0, []), (1, []), (2, []), (3, []), (4, []), (5, []), (6, []), (7, []), (8, []), (9, []), (10, []), (11, []), (12, [])] (by kernel_rfl) (by kernel_rfl) ?_
        refine at_seg [(0, []), (1, [])] [(0, .slice p0.r p0.n), (1, .int .i64 p1), (5, .slice x4.r x4.n), (6, .int .i64 x5), (14, .slice p0.r p0.n), (15, .int .i64 x5)] H (noU_all rfl) (fun fr => by kernel_rfl) ?_
        intro fr H
        obtain ⟨a1, hx, hm⟩ := bind_some hm
        refine at_step (v := .ptr (some a1)) (h1 := h2) [(0, .slice p0.r p0.n), (1, .int .i64 p1), (5, .slice x4.r x4.n), (6, .int .i64 x5), (16, .ptr (some (a1.1, a1.2)))] H (fun fr => by kernel_rfl) (fun fr => .of (s_ixL (s := p0) (by kernel_rfl) hx)) ?_
        intro fr t H
        obtain ⟨x7, hx, hm⟩ := bind_some hm
        refine at_step (v := .int .i64 x7) (h1 := h2) [(0, .slice p0.r p0.n), (1, .int .i64 p1), (5, .slice x4.r x4.n), (6, .int .i64 x5), (17, .int .i64 x7)] H (fun fr => by kernel_rfl) (fun fr => .of (s_ld (by kernel_rfl) (ldI_eq hx))) ?_
        intro fr t H
        refine at_seg [(4, []), (5, [])] [(0, .slice p0.r p0.n), (1, .int .i64 p1), (5, .slice x4.r x4.n), (6, .int .i64 x5), (19, .bool (x7 == (0 : Int)))] H (noU_all rfl) (fun fr => by kernel_rfl) ?_
        intro fr H
        obtain ⟨x8, ho, hm⟩ := bind_some hm
        refine at_cut [(6, []), (7, []), (8, []), (9, []), (10, []), (11, []), (12, [])] (fun fr' h' => h2 = h' ∧ Has fr' 32 [(0, .slice p0.r p0.n), (1, .int .i64 p1), (5, .slice x4.r x4.n), (6, .int .i64 x5), (26, .bool x8)]) ?_ ?_
        · rcases iteB_some ho with ⟨hb, hm⟩ | ⟨hb, hm⟩
          · rw [hb] at H
            refine at_seg [(6, []), (7, []), (8, []), (9, []), (10, []), (11, []), (12, [])] [(0, .slice p0.r p0.n), (1, .int .i64 p1), (5, .slice x4.r x4.n), (6, .int .i64 x5), (26, .bool true)] H (noU_all rfl) (fun fr => by kernel_rfl) ?_
            intro fr H
            have e1 := Option.some.inj hm
            subst e1
            exact at_nil ⟨rfl, H.less _ (fun fr => by kernel_rfl)⟩
          · rw [hb] at H
            refine at_seg [(6, []), (7, [])] [(0, .slice p0.r p0.n), (1, .int .i64 p1), (5, .slice x4.r x4.n), (6, .int .i64 x5), (19, .bool false), (20, .slice p0.r p0.n), (21, .int .i64 x5)] H (noU_all rfl) (fun fr => by kernel_rfl) ?_
            intro fr H
            obtain ⟨a2, hx, hm⟩ := bind_some hm
            refine at_step (v := .ptr (some a2)) (h1 := h2) [(0, .slice p0.r p0.n), (1, .int .i64 p1), (5, .slice x4.r x4.n), (6, .int .i64 x5), (19, .bool false), (22, .ptr (some (a2.1, a2.2)))] H (fun fr => by kernel_rfl) (fun fr => .of (s_ixL (s := p0) (by kernel_rfl) hx)) ?_
            intro fr t H
            obtain ⟨x9, hx, hm⟩ := bind_some hm
            refine at_step (v := .int .i64 x9) (h1 := h2) [(0, .slice p0.r p0.n), (1, .int .i64 p1), (5, .slice x4.r x4.n), (6, .int .i64 x5), (19, .bool false), (23, .int .i64 x9)] H (fun fr => by kernel_rfl) (fun fr => .of (s_ld (by kernel_rfl) (ldI_eq hx))) ?_
            intro fr t H
            refine at_seg [(10, []), (11, []), (12, [])] [(0, .slice p0.r p0.n), (1, .int .i64 p1), (5, .slice x4.r x4.n), (6, .int .i64 x5), (26, .bool (decide (x9 < p1)))] H (noU_all rfl) (fun fr => by kernel_rfl) ?_
            intro fr H
            have e1 := Option.some.inj hm
            subst e1
            exact at_nil ⟨rfl, H.less _ (fun fr => by kernel_rfl)⟩
        · intro t fr h' hK
          obtain ⟨e, H⟩ := hK
          subst e
          refine at_nil ?_
          show AW cfg 14 g (right (left (left (right (left (left (right (left (right (right (bodyC cfg.P 14))))))))))) fr h2 _
          rcases iteB_some hm with ⟨hb, hm⟩ | ⟨hb, hm⟩
          · rw [hb] at H
            refine aw_true (x := .tmp 26) (by kernel_rfl) H (fun fr => by kernel_rfl) ?_
            refine aw_reg (id := 6) (n := 5) [(0, []), (1, []), (2, []), (3, []), (4, [])] (by kernel_rfl) (by kernel_rfl) ?_
            refine at_seg [(0, []), (1, [])] [(0, .slice p0.r p0.n), (1, .int .i64 p1), (6, .int .i64 x5), (27, .slice x4.r x4.n), (28, .int .i64 x5)] H (noU_all rfl) (fun fr => by kernel_rfl) ?_
            intro fr H
            obtain ⟨h3, hx, hm⟩ := bind_some hm
            refine at_step (v := .slice (some (h2.size, 0)) 1) (h1 := h3) [(0, .slice p0.r p0.n), (1, .int .i64 p1), (6, .int .i64 x5), (27, .slice x4.r x4.n), (29, .slice (some (h2.size, 0)) 1)] H (fun fr => by kernel_rfl) (fun fr => .of (s_n' (by kernel_rfl) hx)) ?_
            intro fr t H
            obtain ⟨⟨x10, h4⟩, hx, hm⟩ := bind_some hm
            refine at_step (v := .slice x10.r x10.n) (h1 := h4) [(0, .slice p0.r p0.n), (1, .int .i64 p1), (6, .int .i64 x5), (30, .slice x10.r x10.n)] H (fun fr => by kernel_rfl) (fun fr => .of (s_app (s := x4) (by kernel_rfl) hx)) ?_
            intro fr t H
            refine at_seg [(4, [])] [(0, .slice p0.r p0.n), (1, .int .i64 p1), (5, .slice x10.r x10.n), (6, .int .i64 x5)] H (noU_all rfl) (fun fr => by kernel_rfl) ?_
            intro fr H
            refine at_nil ?_
            exact Or.inl ⟨x10, rfl, Option.some.inj hm, rfl, H.less _ (fun fr => by kernel_rfl)⟩
          · rw [hb] at H
            refine aw_false (x := .tmp 26) (by kernel_rfl) H (fun fr => by kernel_rfl) ?_
            refine aw_skip (by kernel_rfl) ?_
            exact Or.inl ⟨x4, rfl, Option.some.inj hm, rfl, H.less _ (fun fr => by kernel_rfl)⟩
      · clear ho
        intro e fr h5 hQ
        rcases hQ with ⟨x6, rfl, rfl, _, H⟩ | hF
        · skip
          show AW cfg 14 g (right (right (left (left (right (left (right (right (bodyC cfg.P 14))))))))) fr h5 _
          refine aw_reg (id := 4) (n := 3) [(0, []), (1, []), (2, [])] (by kernel_rfl) (by kernel_rfl) ?_
          refine at_seg [(0, []), (1, []), (2, [])] [(0, .slice p0.r p0.n), (1, .int .i64 p1), (5, .slice x6.r x6.n), (6, .int .i64 (IntKind.i64.wrap (x5 + (1 : Int))))] H (noU_all rfl) (fun fr => by kernel_rfl) ?_
          intro fr H
          refine at_nil ?_
          exact Exists.intro (x6, IntKind.i64.wrap (x5 + (1 : Int)), h5) (And.intro (Option.some.inj hm).symm ⟨x6, IntKind.i64.wrap (x5 + (1 : Int)), rfl, rfl, H.less _ (fun fr => by kernel_rfl)⟩)
        · exact hF.elim
    · rw [hb] at H
      refine aw_false (x := .tmp 11) (by kernel_rfl) H (fun fr => by kernel_rfl) ?_
      refine aw_exit (i := 0) (by kernel_rfl) ?_
      exact Exists.intro _ (And.intro (Option.some.inj hm).symm (fun e => Or.inl ⟨x4, rfl, e, rfl, H.less _ (fun fr => by kernel_rfl)⟩))
  · clear ho
    intro e fr h6 hQ
    rcases hQ with ⟨x3, rfl, rfl, _, H⟩ | hF
    · skip
      show AW cfg 14 g (right (right (right (bodyC cfg.P 14)))) fr h6 _
      refine aw_seq (by kernel_rfl) ?_
      refine aw_reg (id := 7) (n := 2) [(0, []), (1, [])] (by kernel_rfl) (by kernel_rfl) ?_
      refine at_seg [(0, []), (1, [])] [(4, .slice x3.r x3.n)] H (noU_all rfl) (fun fr => by kernel_rfl) ?_
      intro fr H
      refine at_nil ?_
      show AW cfg 14 g (right (right (right (right (bodyC cfg.P 14))))) fr h6 _
      refine aw_ret (by kernel_rfl) ?_
      obtain ⟨e1, e2⟩ := inj2 hm
      subst e2
      subst e1
      exact (done_ret H (fun fr => by kernel_rfl) rfl : doneQ cfg.P _ _ _ _ fr _)
    · exact hF.elim
end Go.Abs.L
