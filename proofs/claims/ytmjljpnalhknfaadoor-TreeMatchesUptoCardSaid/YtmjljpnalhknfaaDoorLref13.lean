/-
  Models of functions of package ref13, and that the abstract run tells them. Written by lift.py.
-/
import Derived.Test.YtmjljpnalhknfaaDoorLCfg
namespace Go.Abs.L
open Go.Abs
set_option linter.unusedVariables false
/-! ### boulter/boulterref13.In -/
noncomputable def M_boulterref13_In_L0 (p0 : Int) (p1 : List UInt8) (s : Int) : Option ((Int) ⊕ ((Unit) ⊕ (Bool))) :=
  match s with
  | x3 => iteB (decide (x3 < (p1.length : Int))) ((ixS p1 x3).bind fun x4 => iteB (x4 == p0) (some (.inr (.inr true))) (some (.inl (IntKind.i64.wrap (x3 + (1 : Int)))))) (some (.inr (.inl ())))
noncomputable def M_boulterref13_In (h : AHeap) (p0 : Int) (p1 : List UInt8) : Option (Bool) :=
 (loop (M_boulterref13_In_L0 p0 p1) (0 : Int)).bind fun o1 => (match o1 with | .inl _ => some false | .inr x2 => some x2)
theorem ok_boulterref13_In {g : Gd} {h : AHeap} {p0 : Int} {p1 : List UInt8} {r0 : Bool} (hm : M_boulterref13_In h p0 p1 = some r0) : Runs cfg g h 33 [.int .u8 p0, .str p1] (.bool r0) h := by
  refine runs2E (by kernel_rfl) (by kernel_rfl) (body_ofE (n := 17) (rs := [.tmp 4]) (by kernel_rfl) ?_)
  unfold M_boulterref13_In at hm
  refine start (n := 17) [(0, .int .u8 p0), (1, .str p1)] (by kernel_rfl) (by kernel_rfl) ?_
  intro fr H
  refine aw_seq (by kernel_rfl) ?_
  refine aw_reg (id := 0) (n := 1) [(0, [])] (by kernel_rfl) (by kernel_rfl) ?_
  refine at_seg [(0, [])] [(0, .int .u8 p0), (1, .str p1)] H (noU_all rfl) (fun fr => by kernel_rfl) ?_
  intro fr H
  refine at_nil ?_
  show AW cfg 33 (⟨h.size, []⟩ : Gd) (right (bodyC cfg.P 33)) fr h _
  refine aw_seq (by kernel_rfl) ?_
  refine aw_seq (by kernel_rfl) ?_
  refine aw_reg (id := 1) (n := 1) [(0, [])] (by kernel_rfl) (by kernel_rfl) ?_
  refine at_seg [(0, [])] [(0, .int .u8 p0), (1, .str p1), (5, .int .i64 (0 : Int))] H (noU_all rfl) (fun fr => by kernel_rfl) ?_
  intro fr H
  refine at_nil ?_
  show AW cfg 33 (⟨h.size, []⟩ : Gd) (right (left (right (bodyC cfg.P 33)))) fr h _
  refine aw_block (id := 0) (by kernel_rfl) ?_
  obtain ⟨o1, ho, hm⟩ := bind_some hm
  refine aw_mono (Q' := fun e fr' h' => (e = .exit 0 ∧ .inl () = o1 ∧ h = h' ∧ Has fr' 17 []) ∨ (∃ (x2 : Bool), e = .ret ∧ .inr x2 = o1 ∧ h = h' ∧ Has fr' 17 [(4, .bool x2)]) ∨ False) ?_ ?_
  · refine aw_loop (by kernel_rfl) (fun (s : Int) fr' h' => ∃ (x3 : Int), x3 = s ∧ h = h' ∧ Has fr' 17 [(0, .int .u8 p0), (1, .str p1), (5, .int .i64 x3)]) ho ⟨(0 : Int), rfl, rfl, H.less _ (fun fr => by kernel_rfl)⟩ ?_
    clear ho hm H
    intro s q fr hz hI hm
    obtain ⟨x3, rfl, rfl, H⟩ := hI
    unfold M_boulterref13_In_L0 at hm
    refine aw_seq (by kernel_rfl) ?_
    refine aw_seq (by kernel_rfl) ?_
    refine aw_reg (id := 2) (n := 4) [(0, []), (1, []), (2, []), (3, [])] (by kernel_rfl) (by kernel_rfl) ?_
    refine at_seg [(0, []), (1, []), (2, []), (3, [])] [(0, .int .u8 p0), (1, .str p1), (5, .int .i64 x3), (9, .bool (decide (x3 < (p1.length : Int))))] H (noU_all rfl) (fun fr => by kernel_rfl) ?_
    intro fr H
    refine at_nil ?_
    show AW cfg 33 (⟨h.size, []⟩ : Gd) (right (left (left (left (right (left (right (bodyC cfg.P 33)))))))) fr h _
    rcases iteB_some hm with ⟨hb, hm⟩ | ⟨hb, hm⟩
    · replace H := H.know 9 hb (by kernel_rfl)
      refine aw_true (x := .tmp 9) (by kernel_rfl) H (fun fr => by kernel_rfl) ?_
      refine aw_skip (by kernel_rfl) ?_
      show AW cfg 33 (⟨h.size, []⟩ : Gd) (right (left (left (right (left (right (bodyC cfg.P 33))))))) fr h _
      refine aw_seq (by kernel_rfl) ?_
      refine aw_block (id := 1) (by kernel_rfl) ?_
      refine aw_seq (by kernel_rfl) ?_
      refine aw_reg (id := 4) (n := 5) [(0, []), (1, []), (2, []), (3, []), (4, [])] (by kernel_rfl) (by kernel_rfl) ?_
      refine at_seg [(0, []), (1, [])] [(0, .int .u8 p0), (1, .str p1), (5, .int .i64 x3), (12, .str p1), (13, .int .i64 x3)] H (noU_all rfl) (fun fr => by kernel_rfl) ?_
      intro fr H
      obtain ⟨x4, hx, hm⟩ := bind_some hm
      refine at_step (v := .int .u8 x4) (h1 := h) [(0, .int .u8 p0), (1, .str p1), (5, .int .i64 x3), (14, .int .u8 x4)] H (fun fr => by kernel_rfl) (fun fr => .of (s_ixS (by kernel_rfl) hx)) ?_
      intro fr t H
      refine at_seg [(3, []), (4, [])] [(0, .int .u8 p0), (1, .str p1), (5, .int .i64 x3), (16, .bool (x4 == p0))] H (noU_all rfl) (fun fr => by kernel_rfl) ?_
      intro fr H
      refine at_nil ?_
      show AW cfg 33 (⟨h.size, []⟩ : Gd) (right (left (left (right (left (left (right (left (right (bodyC cfg.P 33)))))))))) fr h _
      rcases iteB_some hm with ⟨hb, hm⟩ | ⟨hb, hm⟩
      · replace H := H.know 16 hb (by kernel_rfl)
        refine aw_true (x := .tmp 16) (by kernel_rfl) H (fun fr => by kernel_rfl) ?_
        refine aw_seq (by kernel_rfl) ?_
        refine aw_reg (id := 5) (n := 1) [(0, [])] (by kernel_rfl) (by kernel_rfl) ?_
        refine at_seg [(0, [])] [(4, .bool true)] H (noU_all rfl) (fun fr => by kernel_rfl) ?_
        intro fr H
        refine at_nil ?_
        show AW cfg 33 (⟨h.size, []⟩ : Gd) (right (left (right (left (left (right (left (left (right (left (right (bodyC cfg.P 33)))))))))))) fr h _
        refine aw_ret (by kernel_rfl) ?_
        exact Exists.intro _ (And.intro (Option.some.inj hm).symm (fun e => Or.inr (Or.inl ⟨true, rfl, e, rfl, H.less _ (fun fr => by kernel_rfl)⟩)))
      · replace H := H.know 16 hb (by kernel_rfl)
        refine aw_false (x := .tmp 16) (by kernel_rfl) H (fun fr => by kernel_rfl) ?_
        refine aw_skip (by kernel_rfl) ?_
        show AW cfg 33 (⟨h.size, []⟩ : Gd) (right (right (left (left (right (left (right (bodyC cfg.P 33)))))))) fr h _
        refine aw_reg (id := 3) (n := 3) [(0, []), (1, []), (2, [])] (by kernel_rfl) (by kernel_rfl) ?_
        refine at_seg [(0, []), (1, []), (2, [])] [(0, .int .u8 p0), (1, .str p1), (5, .int .i64 (IntKind.i64.wrap (x3 + (1 : Int))))] H (noU_all rfl) (fun fr => by kernel_rfl) ?_
        intro fr H
        refine at_nil ?_
        exact Exists.intro (IntKind.i64.wrap (x3 + (1 : Int))) (And.intro (Option.some.inj hm).symm ⟨IntKind.i64.wrap (x3 + (1 : Int)), rfl, rfl, H.less _ (fun fr => by kernel_rfl)⟩)
    · replace H := H.know 9 hb (by kernel_rfl)
      refine aw_false (x := .tmp 9) (by kernel_rfl) H (fun fr => by kernel_rfl) ?_
      refine aw_exit (i := 0) (by kernel_rfl) ?_
      exact Exists.intro _ (And.intro (Option.some.inj hm).symm (fun e => Or.inl ⟨rfl, e, rfl, H.less _ (fun fr => by kernel_rfl)⟩))
  · clear ho
    intro e fr hz hQ
    rcases hQ with ⟨rfl, rfl, rfl, H⟩ | ⟨x2, rfl, rfl, rfl, H⟩ | hF
    · skip
      show AW cfg 33 (⟨h.size, []⟩ : Gd) (right (right (bodyC cfg.P 33))) fr h _
      refine aw_seq (by kernel_rfl) ?_
      refine aw_reg (id := 6) (n := 1) [(0, [])] (by kernel_rfl) (by kernel_rfl) ?_
      refine at_seg [(0, [])] [(4, .bool false)] H (noU_all rfl) (fun fr => by kernel_rfl) ?_
      intro fr H
      refine at_nil ?_
      show AW cfg 33 (⟨h.size, []⟩ : Gd) (right (right (right (bodyC cfg.P 33)))) fr h _
      refine aw_ret (by kernel_rfl) ?_
      have e1 := Option.some.inj hm
      subst e1
      exact (doneE_of .ret H (fun fr => by kernel_rfl) (.inl rfl) : doneE cfg.P _ _ _ fr _)
    · skip
      have e1 := Option.some.inj hm
      subst e1
      exact (doneE_of .ret H (fun fr => by kernel_rfl) (.inl rfl) : doneE cfg.P _ _ _ fr _)
    · exact hF.elim
end Go.Abs.L
