/-
  Models of functions of package ref16, and that the abstract run tells them. Written by lift.py.
-/
import Derived.Test.YtimjggadeingjaaLCfg
namespace Go.Abs.L
open Go.Abs
set_option linter.unusedVariables false
/-! ### boulter/boulterref16.Same -/
noncomputable def M_boulterref16_Same_L0 (h : AHeap) (p0 : Sl) (p1 : Sl) (s : Int) : Option ((Int) ⊕ ((Unit) ⊕ (Bool))) :=
  match s with
  | x3 => iteB (decide (x3 < ((p0.n : Nat) : Int))) ((ixL p0 1 x3).bind fun a1 => (ldI h (a1.1, a1.2) .i64).bind fun x4 => (ixL p1 1 x3).bind fun a2 => (ldI h (a2.1, a2.2) .i64).bind fun x5 => iteB (x4 != x5) (some (.inr (.inr false))) (some (.inl (IntKind.i64.wrap (x3 + (1 : Int)))))) (some (.inr (.inl ())))
noncomputable def M_boulterref16_Same (h : AHeap) (p0 : Sl) (p1 : Sl) : Option (Bool) :=
 iteB (((p0.n : Nat) : Int) != ((p1.n : Nat) : Int)) (some false) ((loop (M_boulterref16_Same_L0 h p0 p1) (0 : Int)).bind fun o1 => (match o1 with | .inl _ => some true | .inr x2 => some x2))
theorem ok_boulterref16_Same {g : Gd} {h : AHeap} {p0 : Sl} {p1 : Sl} {r0 : Bool} (hm : M_boulterref16_Same h p0 p1 = some r0) : Runs cfg g h 13 [.slice p0.r p0.n, .slice p1.r p1.n] (.bool r0) h := by
  refine runs2E (by kernel_rfl) (by kernel_rfl) (body_ofE (n := 26) (rs := [.tmp 4]) (by kernel_rfl) ?_)
  unfold M_boulterref16_Same at hm
  refine start (n := 26) [(0, .slice p0.r p0.n), (1, .slice p1.r p1.n)] (by kernel_rfl) (by kernel_rfl) ?_
  intro fr H
  refine aw_seq (by kernel_rfl) ?_
  refine aw_reg (id := 0) (n := 1) [(0, [])] (by kernel_rfl) (by kernel_rfl) ?_
  refine at_seg [(0, [])] [(0, .slice p0.r p0.n), (1, .slice p1.r p1.n)] H (noU_all rfl) (fun fr => by kernel_rfl) ?_
  intro fr H
  refine at_nil ?_
  show AW cfg 13 (⟨h.size, []⟩ : Gd) (right (bodyC cfg.P 13)) fr h _
  refine aw_seq (by kernel_rfl) ?_
  refine aw_seq (by kernel_rfl) ?_
  refine aw_reg (id := 1) (n := 5) [(0, []), (1, []), (2, []), (3, []), (4, [])] (by kernel_rfl) (by kernel_rfl) ?_
  refine at_seg [(0, []), (1, []), (2, []), (3, []), (4, [])] [(0, .slice p0.r p0.n), (1, .slice p1.r p1.n), (10, .bool (((p0.n : Nat) : Int) != ((p1.n : Nat) : Int)))] H (noU_all rfl) (fun fr => by kernel_rfl) ?_
  intro fr H
  refine at_nil ?_
  show AW cfg 13 (⟨h.size, []⟩ : Gd) (right (left (right (bodyC cfg.P 13)))) fr h _
  rcases iteB_some hm with ⟨hb, hm⟩ | ⟨hb, hm⟩
  · rw [hb] at H
    refine aw_true (x := .tmp 10) (by kernel_rfl) H (fun fr => by kernel_rfl) ?_
    refine aw_seq (by kernel_rfl) ?_
    refine aw_reg (id := 2) (n := 1) [(0, [])] (by kernel_rfl) (by kernel_rfl) ?_
    refine at_seg [(0, [])] [(4, .bool false)] H (noU_all rfl) (fun fr => by kernel_rfl) ?_
    intro fr H
    refine at_nil ?_
    show AW cfg 13 (⟨h.size, []⟩ : Gd) (right (left (right (left (right (bodyC cfg.P 13)))))) fr h _
    refine aw_ret (by kernel_rfl) ?_
    have e1 := Option.some.inj hm
    subst e1
    exact (doneE_of .ret H (fun fr => by kernel_rfl) (.inl rfl) : doneE cfg.P _ _ _ fr _)
  · rw [hb] at H
    refine aw_false (x := .tmp 10) (by kernel_rfl) H (fun fr => by kernel_rfl) ?_
    refine aw_skip (by kernel_rfl) ?_
    show AW cfg 13 (⟨h.size, []⟩ : Gd) (right (right (bodyC cfg.P 13))) fr h _
    refine aw_seq (by kernel_rfl) ?_
    refine aw_seq (by kernel_rfl) ?_
    refine aw_reg (id := 3) (n := 1) [(0, [])] (by kernel_rfl) (by kernel_rfl) ?_
    refine at_seg [(0, [])] [(0, .slice p0.r p0.n), (1, .slice p1.r p1.n), (5, .int .i64 (0 : Int))] H (noU_all rfl) (fun fr => by kernel_rfl) ?_
    intro fr H
    refine at_nil ?_
    show AW cfg 13 (⟨h.size, []⟩ : Gd) (right (left (right (right (bodyC cfg.P 13))))) fr h _
    refine aw_block (id := 0) (by kernel_rfl) ?_
    obtain ⟨o1, ho, hm⟩ := bind_some hm
    refine aw_mono (Q' := fun e fr' h' => (e = .exit 0 ∧ .inl () = o1 ∧ h = h' ∧ Has fr' 26 []) ∨ (∃ (x2 : Bool), e = .ret ∧ .inr x2 = o1 ∧ h = h' ∧ Has fr' 26 [(4, .bool x2)]) ∨ False) ?_ ?_
    · refine aw_loop (by kernel_rfl) (fun (s : Int) fr' h' => ∃ (x3 : Int), x3 = s ∧ h = h' ∧ Has fr' 26 [(0, .slice p0.r p0.n), (1, .slice p1.r p1.n), (5, .int .i64 x3)]) ho ⟨(0 : Int), rfl, rfl, H.less _ (fun fr => by kernel_rfl)⟩ ?_
      clear ho hm H
      intro s q fr hz hI hm
      obtain ⟨x3, rfl, rfl, H⟩ := hI
      unfold M_boulterref16_Same_L0 at hm
      refine aw_seq (by kernel_rfl) ?_
      refine aw_seq (by kernel_rfl) ?_
      refine aw_reg (id := 4) (n := 4) [(0, []), (1, []), (2, []), (3, [])] (by kernel_rfl) (by kernel_rfl) ?_
      refine at_seg [(0, []), (1, []), (2, []), (3, [])] [(0, .slice p0.r p0.n), (1, .slice p1.r p1.n), (5, .int .i64 x3), (14, .bool (decide (x3 < ((p0.n : Nat) : Int))))] H (noU_all rfl) (fun fr => by kernel_rfl) ?_
      intro fr H
      refine at_nil ?_
      show AW cfg 13 (⟨h.size, []⟩ : Gd) (right (left (left (left (right (left (right (right (bodyC cfg.P 13))))))))) fr h _
      rcases iteB_some hm with ⟨hb, hm⟩ | ⟨hb, hm⟩
      · rw [hb] at H
        refine aw_true (x := .tmp 14) (by kernel_rfl) H (fun fr => by kernel_rfl) ?_
        refine aw_skip (by kernel_rfl) ?_
        show AW cfg 13 (⟨h.size, []⟩ : Gd) (right (left (left (right (left (right (right (bodyC cfg.P 13)))))))) fr h _
        refine aw_seq (by kernel_rfl) ?_
        refine aw_block (id := 1) (by kernel_rfl) ?_
        refine aw_seq (by kernel_rfl) ?_
        refine aw_draw (id := 6) (n := 9) (by kernel_rfl) [(0, []), (1, []), (2, []), (3, []), (4, []), (5, []), (6, []), (7, []), (8, [])] (by kernel_rfl) ?_
        refine at_seg [(0, []), (1, [])] [(0, .slice p0.r p0.n), (1, .slice p1.r p1.n), (5, .int .i64 x3), (17, .slice p0.r p0.n), (18, .int .i64 x3)] H (noU_all rfl) (fun fr => by kernel_rfl) ?_
        intro fr H
        obtain ⟨a1, hx, hm⟩ := bind_some hm
        refine at_step (v := .ptr (some a1)) (h1 := h) [(0, .slice p0.r p0.n), (1, .slice p1.r p1.n), (5, .int .i64 x3), (19, .ptr (some (a1.1, a1.2)))] H (fun fr => by kernel_rfl) (fun fr => .of (s_ixL (s := p0) (by kernel_rfl) hx)) ?_
        intro fr t H
        obtain ⟨x4, hx, hm⟩ := bind_some hm
        refine at_step (v := .int .i64 x4) (h1 := h) [(0, .slice p0.r p0.n), (1, .slice p1.r p1.n), (5, .int .i64 x3), (20, .int .i64 x4)] H (fun fr => by kernel_rfl) (fun fr => .of (s_ld (by kernel_rfl) (ldI_eq hx))) ?_
        intro fr t H
        refine at_seg [(4, []), (5, [])] [(0, .slice p0.r p0.n), (1, .slice p1.r p1.n), (5, .int .i64 x3), (20, .int .i64 x4), (21, .slice p1.r p1.n), (22, .int .i64 x3)] H (noU_all rfl) (fun fr => by kernel_rfl) ?_
        intro fr H
        obtain ⟨a2, hx, hm⟩ := bind_some hm
        refine at_step (v := .ptr (some a2)) (h1 := h) [(0, .slice p0.r p0.n), (1, .slice p1.r p1.n), (5, .int .i64 x3), (20, .int .i64 x4), (23, .ptr (some (a2.1, a2.2)))] H (fun fr => by kernel_rfl) (fun fr => .of (s_ixL (s := p1) (by kernel_rfl) hx)) ?_
        intro fr t H
        obtain ⟨x5, hx, hm⟩ := bind_some hm
        refine at_step (v := .int .i64 x5) (h1 := h) [(0, .slice p0.r p0.n), (1, .slice p1.r p1.n), (5, .int .i64 x3), (20, .int .i64 x4), (24, .int .i64 x5)] H (fun fr => by kernel_rfl) (fun fr => .of (s_ld (by kernel_rfl) (ldI_eq hx))) ?_
        intro fr t H
        refine at_seg [(8, [])] [(0, .slice p0.r p0.n), (1, .slice p1.r p1.n), (5, .int .i64 x3), (25, .bool (x4 != x5))] H (noU_all rfl) (fun fr => by kernel_rfl) ?_
        intro fr H
        refine at_nil ?_
        show AW cfg 13 (⟨h.size, []⟩ : Gd) (right (left (left (right (left (left (right (left (right (right (bodyC cfg.P 13))))))))))) fr h _
        rcases iteB_some hm with ⟨hb, hm⟩ | ⟨hb, hm⟩
        · rw [hb] at H
          refine aw_true (x := .tmp 25) (by kernel_rfl) H (fun fr => by kernel_rfl) ?_
          refine aw_seq (by kernel_rfl) ?_
          refine aw_reg (id := 7) (n := 1) [(0, [])] (by kernel_rfl) (by kernel_rfl) ?_
          refine at_seg [(0, [])] [(4, .bool false)] H (noU_all rfl) (fun fr => by kernel_rfl) ?_
          intro fr H
          refine at_nil ?_
          show AW cfg 13 (⟨h.size, []⟩ : Gd) (right (left (right (left (left (right (left (left (right (left (right (right (bodyC cfg.P 13))))))))))))) fr h _
          refine aw_ret (by kernel_rfl) ?_
          exact Exists.intro _ (And.intro (Option.some.inj hm).symm (fun e => Or.inr (Or.inl ⟨false, rfl, e, rfl, H.less _ (fun fr => by kernel_rfl)⟩)))
        · rw [hb] at H
          refine aw_false (x := .tmp 25) (by kernel_rfl) H (fun fr => by kernel_rfl) ?_
          refine aw_skip (by kernel_rfl) ?_
          show AW cfg 13 (⟨h.size, []⟩ : Gd) (right (right (left (left (right (left (right (right (bodyC cfg.P 13))))))))) fr h _
          refine aw_reg (id := 5) (n := 3) [(0, []), (1, []), (2, [])] (by kernel_rfl) (by kernel_rfl) ?_
          refine at_seg [(0, []), (1, []), (2, [])] [(0, .slice p0.r p0.n), (1, .slice p1.r p1.n), (5, .int .i64 (IntKind.i64.wrap (x3 + (1 : Int))))] H (noU_all rfl) (fun fr => by kernel_rfl) ?_
          intro fr H
          refine at_nil ?_
          exact Exists.intro (IntKind.i64.wrap (x3 + (1 : Int))) (And.intro (Option.some.inj hm).symm ⟨IntKind.i64.wrap (x3 + (1 : Int)), rfl, rfl, H.less _ (fun fr => by kernel_rfl)⟩)
      · rw [hb] at H
        refine aw_false (x := .tmp 14) (by kernel_rfl) H (fun fr => by kernel_rfl) ?_
        refine aw_exit (i := 0) (by kernel_rfl) ?_
        exact Exists.intro _ (And.intro (Option.some.inj hm).symm (fun e => Or.inl ⟨rfl, e, rfl, H.less _ (fun fr => by kernel_rfl)⟩))
    · clear ho
      intro e fr hz hQ
      rcases hQ with ⟨rfl, rfl, rfl, H⟩ | ⟨x2, rfl, rfl, rfl, H⟩ | hF
      · skip
        show AW cfg 13 (⟨h.size, []⟩ : Gd) (right (right (right (bodyC cfg.P 13)))) fr h _
        refine aw_seq (by kernel_rfl) ?_
        refine aw_reg (id := 8) (n := 1) [(0, [])] (by kernel_rfl) (by kernel_rfl) ?_
        refine at_seg [(0, [])] [(4, .bool true)] H (noU_all rfl) (fun fr => by kernel_rfl) ?_
        intro fr H
        refine at_nil ?_
        show AW cfg 13 (⟨h.size, []⟩ : Gd) (right (right (right (right (bodyC cfg.P 13))))) fr h _
        refine aw_ret (by kernel_rfl) ?_
        have e1 := Option.some.inj hm
        subst e1
        exact (doneE_of .ret H (fun fr => by kernel_rfl) (.inl rfl) : doneE cfg.P _ _ _ fr _)
      · skip
        have e1 := Option.some.inj hm
        subst e1
        exact (doneE_of .ret H (fun fr => by kernel_rfl) (.inl rfl) : doneE cfg.P _ _ _ fr _)
      · exact hF.elim
end Go.Abs.L
