/-
  Models of functions of package class, and that the abstract run tells them. Written by lift.py.
-/
import Derived.Test.YtklabpnclemmoaaLCfg
namespace Go.Abs.L
open Go.Abs
set_option linter.unusedVariables false
/-! ### boulter/class.Other -/
noncomputable def M_class_Other (h : AHeap) (p0 : Int) : Option (Int) :=
 iteB ((decide ((bOr .u8 p0 (32 : Int)) ≥ (97 : Int))) && (decide ((bOr .u8 p0 (32 : Int)) ≤ (122 : Int)))) (some (bXor .u8 p0 (32 : Int))) (some p0)
theorem ok_class_Other {g : Gd} {h : AHeap} {p0 : Int} {r0 : Int} (hm : M_class_Other h p0 = some r0) : Runs cfg g h 95 [.int .u8 p0] (.int .u8 r0) h := by
  refine runs2E (by kernel_rfl) (by kernel_rfl) (body_ofE (n := 15) (rs := [.tmp 2]) (by kernel_rfl) ?_)
  unfold M_class_Other at hm
  refine start (n := 15) [(0, .int .u8 p0)] (by kernel_rfl) (by kernel_rfl) ?_
  intro fr H
  refine aw_seq (by kernel_rfl) ?_
  refine aw_reg (id := 0) (n := 1) [(0, [])] (by kernel_rfl) (by kernel_rfl) ?_
  refine at_seg [(0, [])] [(0, .int .u8 p0)] H (noU_all rfl) (fun fr => by kernel_rfl) ?_
  intro fr H
  refine at_nil ?_
  show AW cfg 95 (⟨h.size, []⟩ : Gd) (right (bodyC cfg.P 95)) fr h _
  refine aw_seq (by kernel_rfl) ?_
  refine aw_seq (by kernel_rfl) ?_
  refine aw_reg (id := 1) (n := 3) [(0, []), (1, []), (2, [])] (by kernel_rfl) (by kernel_rfl) ?_
  refine at_seg [(0, []), (1, []), (2, [])] [(0, .int .u8 p0), (3, .int .u8 (bOr .u8 p0 (32 : Int)))] H (noU_all rfl) (fun fr => by kernel_rfl) ?_
  intro fr H
  refine at_nil ?_
  show AW cfg 95 (⟨h.size, []⟩ : Gd) (right (left (right (bodyC cfg.P 95)))) fr h _
  refine aw_seq (by kernel_rfl) ?_
  refine aw_reg (id := 2) (n := 6) [(0, []), (1, []), (2, []), (3, []), (4, []), (5, [])] (by kernel_rfl) (by kernel_rfl) ?_
  refine at_seg [(0, []), (1, []), (2, [])] [(0, .int .u8 p0), (3, .int .u8 (bOr .u8 p0 (32 : Int))), (8, .bool (decide ((bOr .u8 p0 (32 : Int)) ≥ (97 : Int))))] H (noU_all rfl) (fun fr => by kernel_rfl) ?_
  intro fr H
  refine at_cut [(3, []), (4, []), (5, [])] (fun fr' h' => h = h' ∧ Has fr' 15 [(0, .int .u8 p0), (11, .bool ((decide ((bOr .u8 p0 (32 : Int)) ≥ (97 : Int))) && (decide ((bOr .u8 p0 (32 : Int)) ≤ (122 : Int)))))]) ?_ ?_
  · cases hb : (decide ((bOr .u8 p0 (32 : Int)) ≥ (97 : Int)) : Bool) with
    | true =>
      replace H := H.know 8 hb (by kernel_rfl)
      refine at_seg [(3, []), (4, []), (5, [])] [(0, .int .u8 p0), (11, .bool (decide ((bOr .u8 p0 (32 : Int)) ≤ (122 : Int))))] H (noU_all rfl) (fun fr => by kernel_rfl) ?_
      intro fr H
      exact at_nil ⟨rfl, by first | exact H.less _ (fun fr => by rfl) | exact H.less _ (fun fr => by rw [hb]; rfl)⟩
    | false =>
      replace H := H.know 8 hb (by kernel_rfl)
      refine at_seg [(3, []), (4, []), (5, [])] [(0, .int .u8 p0), (11, .bool false)] H (noU_all rfl) (fun fr => by kernel_rfl) ?_
      intro fr H
      exact at_nil ⟨rfl, by first | exact H.less _ (fun fr => by rfl) | exact H.less _ (fun fr => by rw [hb]; rfl)⟩
  · intro t fr h' hK
    obtain ⟨e, H⟩ := hK
    subst e
    refine at_nil ?_
    show AW cfg 95 (⟨h.size, []⟩ : Gd) (right (right (left (right (bodyC cfg.P 95))))) fr h _
    rcases iteB_some hm with ⟨hb, hm⟩ | ⟨hb, hm⟩
    · replace H := H.know 11 hb (by kernel_rfl)
      refine aw_true (x := .tmp 11) (by kernel_rfl) H (fun fr => by kernel_rfl) ?_
      refine aw_seq (by kernel_rfl) ?_
      refine aw_reg (id := 3) (n := 3) [(0, []), (1, []), (2, [])] (by kernel_rfl) (by kernel_rfl) ?_
      refine at_seg [(0, []), (1, []), (2, [])] [(2, .int .u8 (bXor .u8 p0 (32 : Int)))] H (noU_all rfl) (fun fr => by kernel_rfl) ?_
      intro fr H
      refine at_nil ?_
      show AW cfg 95 (⟨h.size, []⟩ : Gd) (right (left (right (right (left (right (bodyC cfg.P 95))))))) fr h _
      refine aw_ret (by kernel_rfl) ?_
      have e1 := Option.some.inj hm
      subst e1
      exact (doneE_of .ret H (fun fr => by kernel_rfl) (.inl rfl) : doneE cfg.P _ _ _ fr _)
    · replace H := H.know 11 hb (by kernel_rfl)
      refine aw_false (x := .tmp 11) (by kernel_rfl) H (fun fr => by kernel_rfl) ?_
      refine aw_skip (by kernel_rfl) ?_
      show AW cfg 95 (⟨h.size, []⟩ : Gd) (right (right (bodyC cfg.P 95))) fr h _
      refine aw_seq (by kernel_rfl) ?_
      refine aw_reg (id := 4) (n := 2) [(0, []), (1, [])] (by kernel_rfl) (by kernel_rfl) ?_
      refine at_seg [(0, []), (1, [])] [(2, .int .u8 p0)] H (noU_all rfl) (fun fr => by kernel_rfl) ?_
      intro fr H
      refine at_nil ?_
      show AW cfg 95 (⟨h.size, []⟩ : Gd) (right (right (right (bodyC cfg.P 95)))) fr h _
      refine aw_ret (by kernel_rfl) ?_
      have e1 := Option.some.inj hm
      subst e1
      exact (doneE_of .ret H (fun fr => by kernel_rfl) (.inl rfl) : doneE cfg.P _ _ _ fr _)
end Go.Abs.L
