/-
  Models of functions of package ref03, and that the abstract run tells them. Written by lift.py.
-/
import Derived.Test.YtklabpnclemmoaaLCfg
import Derived.Test.YtklabpnclemmoaaLref01
namespace Go.Abs.L
open Go.Abs
set_option linter.unusedVariables false
/-! ### boulter/boulterref03.Sum -/
noncomputable def M_boulterref03_Sum_L0 (p0 : List UInt8) (p1 : Bool) (s : Int × Int) : Option ((Int × Int) ⊕ ((Int))) :=
  match s with
  | (x4, x5) => iteB (decide (x5 < (512 : Int))) ((iteB ((decide (x5 ≥ (148 : Int))) && (decide (x5 ≤ (155 : Int)))) (some (IntKind.i64.wrap (x4 + (32 : Int)))) ((iteB p1 ((ixS p0 x5).bind fun x8 => some (decide (x8 ≥ (128 : Int)))) (some false) : Option (Bool)).bind fun x7 => iteB x7 ((ixS p0 x5).bind fun x9 => some (IntKind.i64.wrap (x4 + (IntKind.i64.wrap ((IntKind.i64.wrap x9) - (256 : Int)))))) ((ixS p0 x5).bind fun x10 => some (IntKind.i64.wrap (x4 + (IntKind.i64.wrap x10))))) : Option ((Int))).bind fun x6 => some (.inl (x6, IntKind.i64.wrap (x5 + (1 : Int))))) (some (.inr x4))
noncomputable def M_boulterref03_Sum (h : AHeap) (p0 : List UInt8) (p1 : Bool) : Option (Int) :=
 (loop (M_boulterref03_Sum_L0 p0 p1) ((0 : Int), (0 : Int))).bind fun x3 => some x3
theorem ok_boulterref03_Sum {g : Gd} {h : AHeap} {p0 : List UInt8} {p1 : Bool} {r0 : Int} (hm : M_boulterref03_Sum h p0 p1 = some r0) : Runs cfg g h 53 [.str p0, .bool p1] (.int .i64 r0) h := by
  refine runs2E (by kernel_rfl) (by kernel_rfl) (body_ofE (n := 40) (rs := [.tmp 4]) (by kernel_rfl) ?_)
  unfold M_boulterref03_Sum at hm
  refine start (n := 40) [(0, .str p0), (1, .bool p1)] (by kernel_rfl) (by kernel_rfl) ?_
  intro fr H
  refine aw_seq (by kernel_rfl) ?_
  refine aw_reg (id := 0) (n := 1) [(0, [])] (by kernel_rfl) (by kernel_rfl) ?_
  refine at_seg [(0, [])] [(0, .str p0), (1, .bool p1)] H (noU_all rfl) (fun fr => by kernel_rfl) ?_
  intro fr H
  refine at_nil ?_
  show AW cfg 53 (⟨h.size, []⟩ : Gd) (right (bodyC cfg.P 53)) fr h _
  refine aw_seq (by kernel_rfl) ?_
  refine aw_reg (id := 1) (n := 1) [(0, [])] (by kernel_rfl) (by kernel_rfl) ?_
  refine at_seg [(0, [])] [(0, .str p0), (1, .bool p1), (5, .int .i64 (0 : Int))] H (noU_all rfl) (fun fr => by kernel_rfl) ?_
  intro fr H
  refine at_nil ?_
  show AW cfg 53 (⟨h.size, []⟩ : Gd) (right (right (bodyC cfg.P 53))) fr h _
  refine aw_seq (by kernel_rfl) ?_
  refine aw_seq (by kernel_rfl) ?_
  refine aw_reg (id := 2) (n := 1) [(0, [])] (by kernel_rfl) (by kernel_rfl) ?_
  refine at_seg [(0, [])] [(0, .str p0), (1, .bool p1), (5, .int .i64 (0 : Int)), (6, .int .i64 (0 : Int))] H (noU_all rfl) (fun fr => by kernel_rfl) ?_
  intro fr H
  refine at_nil ?_
  show AW cfg 53 (⟨h.size, []⟩ : Gd) (right (left (right (right (bodyC cfg.P 53))))) fr h _
  refine aw_block (id := 0) (by kernel_rfl) ?_
  obtain ⟨o1, ho, hm⟩ := bind_some hm
  refine aw_mono (Q' := fun e fr' h' => (∃ (x3 : Int), e = .exit 0 ∧ x3 = o1 ∧ h = h' ∧ Has fr' 40 [(5, .int .i64 x3)]) ∨ False) ?_ ?_
  · refine aw_loop (by kernel_rfl) (fun (s : Int × Int) fr' h' => ∃ (x4 : Int) (x5 : Int), (x4, x5) = s ∧ h = h' ∧ Has fr' 40 [(0, .str p0), (1, .bool p1), (5, .int .i64 x4), (6, .int .i64 x5)]) ho ⟨(0 : Int), (0 : Int), rfl, rfl, H.less _ (fun fr => by kernel_rfl)⟩ ?_
    clear ho hm H
    intro s q fr hz hI hm
    obtain ⟨x4, x5, rfl, rfl, H⟩ := hI
    unfold M_boulterref03_Sum_L0 at hm
    refine aw_seq (by kernel_rfl) ?_
    refine aw_seq (by kernel_rfl) ?_
    refine aw_reg (id := 3) (n := 2) [(0, []), (1, [])] (by kernel_rfl) (by kernel_rfl) ?_
    refine at_seg [(0, []), (1, [])] [(0, .str p0), (1, .bool p1), (5, .int .i64 x4), (6, .int .i64 x5), (8, .bool (decide (x5 < (512 : Int))))] H (noU_all rfl) (fun fr => by kernel_rfl) ?_
    intro fr H
    refine at_nil ?_
    show AW cfg 53 (⟨h.size, []⟩ : Gd) (right (left (left (left (right (left (right (right (bodyC cfg.P 53))))))))) fr h _
    rcases iteB_some hm with ⟨hb, hm⟩ | ⟨hb, hm⟩
    · replace H := H.know 8 hb (by kernel_rfl)
      refine aw_true (x := .tmp 8) (by kernel_rfl) H (fun fr => by kernel_rfl) ?_
      refine aw_skip (by kernel_rfl) ?_
      show AW cfg 53 (⟨h.size, []⟩ : Gd) (right (left (left (right (left (right (right (bodyC cfg.P 53)))))))) fr h _
      refine aw_seq (by kernel_rfl) ?_
      obtain ⟨o2, ho, hm⟩ := bind_some hm
      refine aw_mono (Q' := fun e fr' h' => (∃ (x6 : Int), e = .normal ∧ x6 = o2 ∧ h = h' ∧ Has fr' 40 [(0, .str p0), (1, .bool p1), (5, .int .i64 x6), (6, .int .i64 x5)]) ∨ False) ?_ ?_
      · replace hm := ho
        clear ho
        refine aw_block (id := 1) (by kernel_rfl) ?_
        refine aw_seq (by kernel_rfl) ?_
        refine aw_reg (id := 5) (n := 6) [(0, []), (1, []), (2, []), (3, []), (4, []), (5, [])] (by kernel_rfl) (by kernel_rfl) ?_
        refine at_seg [(0, []), (1, []), (2, [])] [(0, .str p0), (1, .bool p1), (5, .int .i64 x4), (6, .int .i64 x5), (13, .bool (decide (x5 ≥ (148 : Int))))] H (noU_all rfl) (fun fr => by kernel_rfl) ?_
        intro fr H
        refine at_cut [(3, []), (4, []), (5, [])] (fun fr' h' => h = h' ∧ Has fr' 40 [(0, .str p0), (1, .bool p1), (5, .int .i64 x4), (6, .int .i64 x5), (16, .bool ((decide (x5 ≥ (148 : Int))) && (decide (x5 ≤ (155 : Int)))))]) ?_ ?_
        · cases hb : (decide (x5 ≥ (148 : Int)) : Bool) with
          | true =>
            replace H := H.know 13 hb (by kernel_rfl)
            refine at_seg [(3, []), (4, []), (5, [])] [(0, .str p0), (1, .bool p1), (5, .int .i64 x4), (6, .int .i64 x5), (16, .bool (decide (x5 ≤ (155 : Int))))] H (noU_all rfl) (fun fr => by kernel_rfl) ?_
            intro fr H
            exact at_nil ⟨rfl, by first | exact H.less _ (fun fr => by rfl) | exact H.less _ (fun fr => by rw [hb]; rfl)⟩
          | false =>
            replace H := H.know 13 hb (by kernel_rfl)
            refine at_seg [(3, []), (4, []), (5, [])] [(0, .str p0), (1, .bool p1), (5, .int .i64 x4), (6, .int .i64 x5), (16, .bool false)] H (noU_all rfl) (fun fr => by kernel_rfl) ?_
            intro fr H
            exact at_nil ⟨rfl, by first | exact H.less _ (fun fr => by rfl) | exact H.less _ (fun fr => by rw [hb]; rfl)⟩
        · intro t fr h' hK
          obtain ⟨e, H⟩ := hK
          subst e
          refine at_nil ?_
          show AW cfg 53 (⟨h.size, []⟩ : Gd) (right (left (left (right (left (left (right (left (right (right (bodyC cfg.P 53))))))))))) fr h _
          rcases iteB_some hm with ⟨hb, hm⟩ | ⟨hb, hm⟩
          · replace H := H.know 16 hb (by kernel_rfl)
            refine aw_true (x := .tmp 16) (by kernel_rfl) H (fun fr => by kernel_rfl) ?_
            refine aw_reg (id := 6) (n := 3) [(0, []), (1, []), (2, [])] (by kernel_rfl) (by kernel_rfl) ?_
            refine at_seg [(0, []), (1, []), (2, [])] [(0, .str p0), (1, .bool p1), (5, .int .i64 (IntKind.i64.wrap (x4 + (32 : Int)))), (6, .int .i64 x5)] H (noU_all rfl) (fun fr => by kernel_rfl) ?_
            intro fr H
            refine at_nil ?_
            exact Or.inl ⟨IntKind.i64.wrap (x4 + (32 : Int)), rfl, Option.some.inj hm, rfl, H.less _ (fun fr => by kernel_rfl)⟩
          · replace H := H.know 16 hb (by kernel_rfl)
            refine aw_false (x := .tmp 16) (by kernel_rfl) H (fun fr => by kernel_rfl) ?_
            refine aw_seq (by kernel_rfl) ?_
            refine aw_reg (id := 7) (n := 7) [(0, []), (1, []), (2, []), (3, []), (4, []), (5, []), (6, [])] (by kernel_rfl) (by kernel_rfl) ?_
            refine at_seg [(0, []), (1, [])] [(0, .str p0), (1, .bool p1), (5, .int .i64 x4), (6, .int .i64 x5), (20, .bool p1)] H (noU_all rfl) (fun fr => by kernel_rfl) ?_
            intro fr H
            obtain ⟨x7, ho, hm⟩ := bind_some hm
            refine at_cut [(2, []), (3, []), (4, []), (5, []), (6, [])] (fun fr' h' => h = h' ∧ Has fr' 40 [(0, .str p0), (1, .bool p1), (5, .int .i64 x4), (6, .int .i64 x5), (25, .bool x7)]) ?_ ?_
            · rcases iteB_some ho with ⟨hb, hm⟩ | ⟨hb, hm⟩
              · replace H := H.know 20 hb (by kernel_rfl)
                refine at_seg [(2, []), (3, [])] [(0, .str p0), (1, .bool p1), (5, .int .i64 x4), (6, .int .i64 x5), (20, .bool true), (21, .str p0), (22, .int .i64 x5)] H (noU_all rfl) (fun fr => by kernel_rfl) ?_
                intro fr H
                obtain ⟨x8, hx, hm⟩ := bind_some hm
                refine at_step (v := .int .u8 x8) (h1 := h) [(0, .str p0), (1, .bool p1), (5, .int .i64 x4), (6, .int .i64 x5), (20, .bool true), (23, .int .u8 x8)] H (fun fr => by kernel_rfl) (fun fr => .of (s_ixS (by kernel_rfl) hx)) ?_
                intro fr t H
                refine at_seg [(5, []), (6, [])] [(0, .str p0), (1, .bool p1), (5, .int .i64 x4), (6, .int .i64 x5), (25, .bool (decide (x8 ≥ (128 : Int))))] H (noU_all rfl) (fun fr => by kernel_rfl) ?_
                intro fr H
                have e1 := Option.some.inj hm
                subst e1
                exact at_nil ⟨rfl, H.less _ (fun fr => by kernel_rfl)⟩
              · replace H := H.know 20 hb (by kernel_rfl)
                refine at_seg [(2, []), (3, []), (4, []), (5, []), (6, [])] [(0, .str p0), (1, .bool p1), (5, .int .i64 x4), (6, .int .i64 x5), (25, .bool false)] H (noU_all rfl) (fun fr => by kernel_rfl) ?_
                intro fr H
                have e1 := Option.some.inj hm
                subst e1
                exact at_nil ⟨rfl, H.less _ (fun fr => by kernel_rfl)⟩
            · intro t fr h' hK
              obtain ⟨e, H⟩ := hK
              subst e
              refine at_nil ?_
              show AW cfg 53 (⟨h.size, []⟩ : Gd) (right (right (right (left (left (right (left (left (right (left (right (right (bodyC cfg.P 53))))))))))))) fr h _
              rcases iteB_some hm with ⟨hb, hm⟩ | ⟨hb, hm⟩
              · replace H := H.know 25 hb (by kernel_rfl)
                refine aw_true (x := .tmp 25) (by kernel_rfl) H (fun fr => by kernel_rfl) ?_
                refine aw_reg (id := 8) (n := 8) [(0, []), (1, []), (2, []), (3, []), (4, []), (5, []), (6, []), (7, [])] (by kernel_rfl) (by kernel_rfl) ?_
                refine at_seg [(0, []), (1, []), (2, [])] [(0, .str p0), (1, .bool p1), (6, .int .i64 x5), (26, .int .i64 x4), (27, .str p0), (28, .int .i64 x5)] H (noU_all rfl) (fun fr => by kernel_rfl) ?_
                intro fr H
                obtain ⟨x9, hx, hm⟩ := bind_some hm
                refine at_step (v := .int .u8 x9) (h1 := h) [(0, .str p0), (1, .bool p1), (6, .int .i64 x5), (26, .int .i64 x4), (29, .int .u8 x9)] H (fun fr => by kernel_rfl) (fun fr => .of (s_ixS (by kernel_rfl) hx)) ?_
                intro fr t H
                refine at_seg [(4, []), (5, []), (6, []), (7, [])] [(0, .str p0), (1, .bool p1), (5, .int .i64 (IntKind.i64.wrap (x4 + (IntKind.i64.wrap ((IntKind.i64.wrap x9) - (256 : Int)))))), (6, .int .i64 x5)] H (noU_all rfl) (fun fr => by kernel_rfl) ?_
                intro fr H
                refine at_nil ?_
                exact Or.inl ⟨IntKind.i64.wrap (x4 + (IntKind.i64.wrap ((IntKind.i64.wrap x9) - (256 : Int)))), rfl, Option.some.inj hm, rfl, H.less _ (fun fr => by kernel_rfl)⟩
              · replace H := H.know 25 hb (by kernel_rfl)
                refine aw_false (x := .tmp 25) (by kernel_rfl) H (fun fr => by kernel_rfl) ?_
                refine aw_reg (id := 9) (n := 7) [(0, []), (1, []), (2, []), (3, []), (4, []), (5, []), (6, [])] (by kernel_rfl) (by kernel_rfl) ?_
                refine at_seg [(0, []), (1, []), (2, [])] [(0, .str p0), (1, .bool p1), (6, .int .i64 x5), (33, .int .i64 x4), (34, .str p0), (35, .int .i64 x5)] H (noU_all rfl) (fun fr => by kernel_rfl) ?_
                intro fr H
                obtain ⟨x10, hx, hm⟩ := bind_some hm
                refine at_step (v := .int .u8 x10) (h1 := h) [(0, .str p0), (1, .bool p1), (6, .int .i64 x5), (33, .int .i64 x4), (36, .int .u8 x10)] H (fun fr => by kernel_rfl) (fun fr => .of (s_ixS (by kernel_rfl) hx)) ?_
                intro fr t H
                refine at_seg [(4, []), (5, []), (6, [])] [(0, .str p0), (1, .bool p1), (5, .int .i64 (IntKind.i64.wrap (x4 + (IntKind.i64.wrap x10)))), (6, .int .i64 x5)] H (noU_all rfl) (fun fr => by kernel_rfl) ?_
                intro fr H
                refine at_nil ?_
                exact Or.inl ⟨IntKind.i64.wrap (x4 + (IntKind.i64.wrap x10)), rfl, Option.some.inj hm, rfl, H.less _ (fun fr => by kernel_rfl)⟩
      · clear ho
        intro e fr hz hQ
        rcases hQ with ⟨x6, rfl, rfl, rfl, H⟩ | hF
        · skip
          show AW cfg 53 (⟨h.size, []⟩ : Gd) (right (right (left (left (right (left (right (right (bodyC cfg.P 53))))))))) fr h _
          refine aw_reg (id := 4) (n := 3) [(0, []), (1, []), (2, [])] (by kernel_rfl) (by kernel_rfl) ?_
          refine at_seg [(0, []), (1, []), (2, [])] [(0, .str p0), (1, .bool p1), (5, .int .i64 x6), (6, .int .i64 (IntKind.i64.wrap (x5 + (1 : Int))))] H (noU_all rfl) (fun fr => by kernel_rfl) ?_
          intro fr H
          refine at_nil ?_
          exact Exists.intro (x6, IntKind.i64.wrap (x5 + (1 : Int))) (And.intro (Option.some.inj hm).symm ⟨x6, IntKind.i64.wrap (x5 + (1 : Int)), rfl, rfl, H.less _ (fun fr => by kernel_rfl)⟩)
        · exact hF.elim
    · replace H := H.know 8 hb (by kernel_rfl)
      refine aw_false (x := .tmp 8) (by kernel_rfl) H (fun fr => by kernel_rfl) ?_
      refine aw_exit (i := 0) (by kernel_rfl) ?_
      exact Exists.intro _ (And.intro (Option.some.inj hm).symm (fun e => Or.inl ⟨x4, rfl, e, rfl, H.less _ (fun fr => by kernel_rfl)⟩))
  · clear ho
    intro e fr hz hQ
    rcases hQ with ⟨x3, rfl, rfl, rfl, H⟩ | hF
    · skip
      show AW cfg 53 (⟨h.size, []⟩ : Gd) (right (right (right (bodyC cfg.P 53)))) fr h _
      refine aw_seq (by kernel_rfl) ?_
      refine aw_reg (id := 10) (n := 2) [(0, []), (1, [])] (by kernel_rfl) (by kernel_rfl) ?_
      refine at_seg [(0, []), (1, [])] [(4, .int .i64 x3)] H (noU_all rfl) (fun fr => by kernel_rfl) ?_
      intro fr H
      refine at_nil ?_
      show AW cfg 53 (⟨h.size, []⟩ : Gd) (right (right (right (right (bodyC cfg.P 53))))) fr h _
      refine aw_ret (by kernel_rfl) ?_
      have e1 := Option.some.inj hm
      subst e1
      exact (doneE_of .ret H (fun fr => by kernel_rfl) (.inl rfl) : doneE cfg.P _ _ _ fr _)
    · exact hF.elim
/-! ### boulter/boulterref03.Seal -/
noncomputable def M_boulterref03_Seal_L0 (s : Int × (List UInt8) × Int) : Option ((Int × (List UInt8) × Int) ⊕ (((List UInt8)))) :=
  match s with
  | (x6, x7, x8) => iteB (decide (x8 < (6 : Int))) ((subS ([48, 49, 50, 51, 52, 53, 54, 55] : List UInt8) (some (Int.tmod x6 (8 : Int))) (some (IntKind.i64.wrap ((Int.tmod x6 (8 : Int)) + (1 : Int))))).bind fun x9 => need (decide (x9.length + x7.length ≤ 9223372036854775807)) <| some (.inl (IntKind.i64.wrap (Int.tdiv x6 (8 : Int)), x9 ++ x7, IntKind.i64.wrap (x8 + (1 : Int))))) (some (.inr x7))
noncomputable def M_boulterref03_Seal (h : AHeap) (p0 : List UInt8) : Option ((List UInt8)) :=
 (M_boulterref03_Sum h p0 false).bind fun x1 => (loop (M_boulterref03_Seal_L0) (x1, ([] : List UInt8), (0 : Int))).bind fun x5 => (subS p0 none (some (148 : Int))).bind fun x10 => need (decide (x10.length + x5.length ≤ 9223372036854775807)) <| need (decide ((x10 ++ x5).length + ([0, 32] : List UInt8).length ≤ 9223372036854775807)) <| (subS p0 (some (156 : Int)) none).bind fun x11 => need (decide (((x10 ++ x5) ++ ([0, 32] : List UInt8)).length + x11.length ≤ 9223372036854775807)) <| some (((x10 ++ x5) ++ ([0, 32] : List UInt8)) ++ x11)
theorem ok_boulterref03_Seal {g : Gd} {h : AHeap} {p0 : List UInt8} {r0 : List UInt8} (hm : M_boulterref03_Seal h p0 = some r0) : Runs cfg g h 48 [.str p0] (.str r0) h := by
  refine runs2E (by kernel_rfl) (by kernel_rfl) (body_ofE (n := 30) (rs := [.tmp 2]) (by kernel_rfl) ?_)
  unfold M_boulterref03_Seal at hm
  refine start (n := 30) [(0, .str p0)] (by kernel_rfl) (by kernel_rfl) ?_
  intro fr H
  refine aw_seq (by kernel_rfl) ?_
  refine aw_reg (id := 0) (n := 1) [(0, [])] (by kernel_rfl) (by kernel_rfl) ?_
  refine at_seg [(0, [])] [(0, .str p0)] H (noU_all rfl) (fun fr => by kernel_rfl) ?_
  intro fr H
  refine at_nil ?_
  show AW cfg 48 (⟨h.size, []⟩ : Gd) (right (bodyC cfg.P 48)) fr h _
  refine aw_seq (by kernel_rfl) ?_
  refine aw_reg (id := 1) (n := 3) [(0, []), (1, []), (2, [])] (by kernel_rfl) (by kernel_rfl) ?_
  refine at_seg [(0, [])] [(0, .str p0), (6, .str p0)] H (noU_all rfl) (fun fr => by kernel_rfl) ?_
  intro fr H
  obtain ⟨x1, hx, hm⟩ := bind_some hm
  refine at_step (v := .int .i64 x1) (h1 := h) [(0, .str p0), (7, .int .i64 x1)] H (fun fr => by kernel_rfl) (fun fr => Steps.call (by kernel_rfl) (ok_boulterref03_Sum hx)) ?_
  intro fr t H
  refine at_seg [(2, [])] [(0, .str p0), (3, .int .i64 x1)] H (noU_all rfl) (fun fr => by kernel_rfl) ?_
  intro fr H
  refine at_nil ?_
  show AW cfg 48 (⟨h.size, []⟩ : Gd) (right (right (bodyC cfg.P 48))) fr h _
  refine aw_seq (by kernel_rfl) ?_
  refine aw_reg (id := 2) (n := 1) [(0, [])] (by kernel_rfl) (by kernel_rfl) ?_
  refine at_seg [(0, [])] [(0, .str p0), (3, .int .i64 x1), (4, .str ([] : List UInt8))] H (noU_all rfl) (fun fr => by kernel_rfl) ?_
  intro fr H
  refine at_nil ?_
  show AW cfg 48 (⟨h.size, []⟩ : Gd) (right (right (right (bodyC cfg.P 48)))) fr h _
  refine aw_seq (by kernel_rfl) ?_
  refine aw_seq (by kernel_rfl) ?_
  refine aw_reg (id := 3) (n := 1) [(0, [])] (by kernel_rfl) (by kernel_rfl) ?_
  refine at_seg [(0, [])] [(0, .str p0), (3, .int .i64 x1), (4, .str ([] : List UInt8)), (5, .int .i64 (0 : Int))] H (noU_all rfl) (fun fr => by kernel_rfl) ?_
  intro fr H
  refine at_nil ?_
  show AW cfg 48 (⟨h.size, []⟩ : Gd) (right (left (right (right (right (bodyC cfg.P 48)))))) fr h _
  refine aw_block (id := 0) (by kernel_rfl) ?_
  obtain ⟨o1, ho, hm⟩ := bind_some hm
  refine aw_mono (Q' := fun e fr' h' => (∃ (x5 : List UInt8), e = .exit 0 ∧ x5 = o1 ∧ h = h' ∧ Has fr' 30 [(0, .str p0), (4, .str x5)]) ∨ False) ?_ ?_
  · refine aw_loop (by kernel_rfl) (fun (s : Int × (List UInt8) × Int) fr' h' => ∃ (x6 : Int) (x7 : List UInt8) (x8 : Int), (x6, x7, x8) = s ∧ h = h' ∧ Has fr' 30 [(0, .str p0), (3, .int .i64 x6), (4, .str x7), (5, .int .i64 x8)]) ho ⟨x1, ([] : List UInt8), (0 : Int), rfl, rfl, H.less _ (fun fr => by kernel_rfl)⟩ ?_
    clear ho hm H
    intro s q fr hz hI hm
    obtain ⟨x6, x7, x8, rfl, rfl, H⟩ := hI
    unfold M_boulterref03_Seal_L0 at hm
    refine aw_seq (by kernel_rfl) ?_
    refine aw_seq (by kernel_rfl) ?_
    refine aw_reg (id := 4) (n := 2) [(0, []), (1, [])] (by kernel_rfl) (by kernel_rfl) ?_
    refine at_seg [(0, []), (1, [])] [(0, .str p0), (3, .int .i64 x6), (4, .str x7), (5, .int .i64 x8), (9, .bool (decide (x8 < (6 : Int))))] H (noU_all rfl) (fun fr => by kernel_rfl) ?_
    intro fr H
    refine at_nil ?_
    show AW cfg 48 (⟨h.size, []⟩ : Gd) (right (left (left (left (right (left (right (right (right (bodyC cfg.P 48)))))))))) fr h _
    rcases iteB_some hm with ⟨hb, hm⟩ | ⟨hb, hm⟩
    · replace H := H.know 9 hb (by kernel_rfl)
      refine aw_true (x := .tmp 9) (by kernel_rfl) H (fun fr => by kernel_rfl) ?_
      refine aw_skip (by kernel_rfl) ?_
      show AW cfg 48 (⟨h.size, []⟩ : Gd) (right (left (left (right (left (right (right (right (bodyC cfg.P 48))))))))) fr h _
      refine aw_seq (by kernel_rfl) ?_
      refine aw_block (id := 1) (by kernel_rfl) ?_
      refine aw_seq (by kernel_rfl) ?_
      refine aw_reg (id := 6) (n := 9) [(0, []), (1, []), (2, []), (3, []), (4, []), (5, []), (6, []), (7, []), (8, [])] (by kernel_rfl) (by kernel_rfl) ?_
      refine at_seg [(0, []), (1, []), (2, []), (3, []), (4, [])] [(0, .str p0), (3, .int .i64 x6), (4, .str x7), (5, .int .i64 x8), (13, .int .i64 (Int.tmod x6 (8 : Int))), (16, .int .i64 (IntKind.i64.wrap ((Int.tmod x6 (8 : Int)) + (1 : Int))))] H (noU_all rfl) (fun fr => by kernel_rfl) ?_
      intro fr H
      obtain ⟨x9, hx, hm⟩ := bind_some hm
      refine at_step (v := .str x9) (h1 := h) [(0, .str p0), (3, .int .i64 x6), (4, .str x7), (5, .int .i64 x8), (17, .str x9)] H (fun fr => by kernel_rfl) (fun fr => .of (s_subS (k := .i64) (k' := .i64) (lo := (some (Int.tmod x6 (8 : Int)))) (hi := (some (IntKind.i64.wrap ((Int.tmod x6 (8 : Int)) + (1 : Int))))) (by kernel_rfl) hx)) ?_
      intro fr t H
      refine at_seg [(6, [])] [(0, .str p0), (3, .int .i64 x6), (5, .int .i64 x8), (17, .str x9), (18, .str x7)] H (noU_all rfl) (fun fr => by kernel_rfl) ?_
      intro fr H
      obtain ⟨hb, hm⟩ := need_some hm
      refine at_step (v := .str (x9 ++ x7)) (h1 := h) [(0, .str p0), (3, .int .i64 x6), (5, .int .i64 x8), (19, .str (x9 ++ x7))] H (fun fr => by kernel_rfl) (fun fr => .of (s_cat (by kernel_rfl) hb)) ?_
      intro fr t H
      refine at_seg [(8, [])] [(0, .str p0), (3, .int .i64 x6), (4, .str (x9 ++ x7)), (5, .int .i64 x8)] H (noU_all rfl) (fun fr => by kernel_rfl) ?_
      intro fr H
      refine at_nil ?_
      show AW cfg 48 (⟨h.size, []⟩ : Gd) (right (left (left (right (left (left (right (left (right (right (right (bodyC cfg.P 48)))))))))))) fr h _
      refine aw_reg (id := 7) (n := 3) [(0, []), (1, []), (2, [])] (by kernel_rfl) (by kernel_rfl) ?_
      refine at_seg [(0, []), (1, []), (2, [])] [(0, .str p0), (3, .int .i64 (IntKind.i64.wrap (Int.tdiv x6 (8 : Int)))), (4, .str (x9 ++ x7)), (5, .int .i64 x8)] H (noU_all rfl) (fun fr => by kernel_rfl) ?_
      intro fr H
      refine at_nil ?_
      show AW cfg 48 (⟨h.size, []⟩ : Gd) (right (right (left (left (right (left (right (right (right (bodyC cfg.P 48)))))))))) fr h _
      refine aw_reg (id := 5) (n := 3) [(0, []), (1, []), (2, [])] (by kernel_rfl) (by kernel_rfl) ?_
      refine at_seg [(0, []), (1, []), (2, [])] [(0, .str p0), (3, .int .i64 (IntKind.i64.wrap (Int.tdiv x6 (8 : Int)))), (4, .str (x9 ++ x7)), (5, .int .i64 (IntKind.i64.wrap (x8 + (1 : Int))))] H (noU_all rfl) (fun fr => by kernel_rfl) ?_
      intro fr H
      refine at_nil ?_
      exact Exists.intro (IntKind.i64.wrap (Int.tdiv x6 (8 : Int)), x9 ++ x7, IntKind.i64.wrap (x8 + (1 : Int))) (And.intro (Option.some.inj hm).symm ⟨IntKind.i64.wrap (Int.tdiv x6 (8 : Int)), x9 ++ x7, IntKind.i64.wrap (x8 + (1 : Int)), rfl, rfl, H.less _ (fun fr => by kernel_rfl)⟩)
    · replace H := H.know 9 hb (by kernel_rfl)
      refine aw_false (x := .tmp 9) (by kernel_rfl) H (fun fr => by kernel_rfl) ?_
      refine aw_exit (i := 0) (by kernel_rfl) ?_
      exact Exists.intro _ (And.intro (Option.some.inj hm).symm (fun e => Or.inl ⟨x7, rfl, e, rfl, H.less _ (fun fr => by kernel_rfl)⟩))
  · clear ho
    intro e fr hz hQ
    rcases hQ with ⟨x5, rfl, rfl, rfl, H⟩ | hF
    · skip
      show AW cfg 48 (⟨h.size, []⟩ : Gd) (right (right (right (right (bodyC cfg.P 48))))) fr h _
      refine aw_seq (by kernel_rfl) ?_
      refine aw_draw (id := 8) (n := 9) (by kernel_rfl) [(0, []), (1, []), (2, []), (3, []), (4, []), (5, []), (6, []), (7, []), (8, [])] (by kernel_rfl) ?_
      refine at_seg [(0, [])] [(0, .str p0), (4, .str x5), (22, .str p0)] H (noU_all rfl) (fun fr => by kernel_rfl) ?_
      intro fr H
      obtain ⟨x10, hx, hm⟩ := bind_some hm
      refine at_step (v := .str x10) (h1 := h) [(0, .str p0), (4, .str x5), (23, .str x10)] H (fun fr => by kernel_rfl) (fun fr => .of (s_subS (k := .i64) (k' := .i64) (lo := none) (hi := (some (148 : Int))) (by kernel_rfl) hx)) ?_
      intro fr t H
      refine at_seg [(2, [])] [(0, .str p0), (23, .str x10), (24, .str x5)] H (noU_all rfl) (fun fr => by kernel_rfl) ?_
      intro fr H
      obtain ⟨hb, hm⟩ := need_some hm
      refine at_step (v := .str (x10 ++ x5)) (h1 := h) [(0, .str p0), (25, .str (x10 ++ x5))] H (fun fr => by kernel_rfl) (fun fr => .of (s_cat (by kernel_rfl) hb)) ?_
      intro fr t H
      obtain ⟨hb, hm⟩ := need_some hm
      refine at_step (v := .str ((x10 ++ x5) ++ ([0, 32] : List UInt8))) (h1 := h) [(0, .str p0), (26, .str ((x10 ++ x5) ++ ([0, 32] : List UInt8)))] H (fun fr => by kernel_rfl) (fun fr => .of (s_cat (by kernel_rfl) hb)) ?_
      intro fr t H
      refine at_seg [(5, [])] [(26, .str ((x10 ++ x5) ++ ([0, 32] : List UInt8))), (27, .str p0)] H (noU_all rfl) (fun fr => by kernel_rfl) ?_
      intro fr H
      obtain ⟨x11, hx, hm⟩ := bind_some hm
      refine at_step (v := .str x11) (h1 := h) [(26, .str ((x10 ++ x5) ++ ([0, 32] : List UInt8))), (28, .str x11)] H (fun fr => by kernel_rfl) (fun fr => .of (s_subS (k := .i64) (k' := .i64) (lo := (some (156 : Int))) (hi := none) (by kernel_rfl) hx)) ?_
      intro fr t H
      obtain ⟨hb, hm⟩ := need_some hm
      refine at_step (v := .str (((x10 ++ x5) ++ ([0, 32] : List UInt8)) ++ x11)) (h1 := h) [(29, .str (((x10 ++ x5) ++ ([0, 32] : List UInt8)) ++ x11))] H (fun fr => by kernel_rfl) (fun fr => .of (s_cat (by kernel_rfl) hb)) ?_
      intro fr t H
      refine at_seg [(8, [])] [(2, .str (((x10 ++ x5) ++ ([0, 32] : List UInt8)) ++ x11))] H (noU_all rfl) (fun fr => by kernel_rfl) ?_
      intro fr H
      refine at_nil ?_
      show AW cfg 48 (⟨h.size, []⟩ : Gd) (right (right (right (right (right (bodyC cfg.P 48)))))) fr h _
      refine aw_ret (by kernel_rfl) ?_
      have e1 := Option.some.inj hm
      subst e1
      exact (doneE_of .ret H (fun fr => by kernel_rfl) (.inl rfl) : doneE cfg.P _ _ _ fr _)
    · exact hF.elim
/-! ### boulter/boulterref03.Right -/
noncomputable def M_boulterref03_Right (h : AHeap) (p0 : List UInt8) : Option (Bool) :=
 (iteB ((p0.length : Int) != (512 : Int)) (some true) ((ixS p0 (148 : Int)).bind fun x2 => some (decide (x2 ≥ (128 : Int)))) : Option (Bool)).bind fun x1 => iteB x1 (some false) ((subS p0 (some (148 : Int)) (some (156 : Int))).bind fun x3 => (M_boulterref01_Read h x3).bind fun (x4, x5) => (iteB (x5 == (0 : Int)) ((M_boulterref03_Sum h p0 false).bind fun x7 => (iteB (x4 == x7) (some true) ((M_boulterref03_Sum h p0 true).bind fun x9 => some (x4 == x9)) : Option (Bool)).bind fun x8 => some x8) (some false) : Option (Bool)).bind fun x6 => some x6)
theorem ok_boulterref03_Right {g : Gd} {h : AHeap} {p0 : List UInt8} {r0 : Bool} (hm : M_boulterref03_Right h p0 = some r0) : Runs cfg g h 52 [.str p0] (.bool r0) h := by
  refine runs2E (by kernel_rfl) (by kernel_rfl) (body_ofE (n := 33) (rs := [.tmp 2]) (by kernel_rfl) ?_)
  unfold M_boulterref03_Right at hm
  refine start (n := 33) [(0, .str p0)] (by kernel_rfl) (by kernel_rfl) ?_
  intro fr H
  refine aw_seq (by kernel_rfl) ?_
  refine aw_reg (id := 0) (n := 1) [(0, [])] (by kernel_rfl) (by kernel_rfl) ?_
  refine at_seg [(0, [])] [(0, .str p0)] H (noU_all rfl) (fun fr => by kernel_rfl) ?_
  intro fr H
  refine at_nil ?_
  show AW cfg 52 (⟨h.size, []⟩ : Gd) (right (bodyC cfg.P 52)) fr h _
  refine aw_seq (by kernel_rfl) ?_
  refine aw_seq (by kernel_rfl) ?_
  refine aw_reg (id := 1) (n := 8) [(0, []), (1, []), (2, []), (3, []), (4, []), (5, []), (6, []), (7, [])] (by kernel_rfl) (by kernel_rfl) ?_
  refine at_seg [(0, []), (1, []), (2, []), (3, [])] [(0, .str p0), (8, .bool ((p0.length : Int) != (512 : Int)))] H (noU_all rfl) (fun fr => by kernel_rfl) ?_
  intro fr H
  obtain ⟨x1, ho, hm⟩ := bind_some hm
  refine at_cut [(4, []), (5, []), (6, []), (7, [])] (fun fr' h' => h = h' ∧ Has fr' 33 [(0, .str p0), (12, .bool x1)]) ?_ ?_
  · rcases iteB_some ho with ⟨hb, hm⟩ | ⟨hb, hm⟩
    · replace H := H.know 8 hb (by kernel_rfl)
      refine at_seg [(4, []), (5, []), (6, []), (7, [])] [(0, .str p0), (12, .bool true)] H (noU_all rfl) (fun fr => by kernel_rfl) ?_
      intro fr H
      have e1 := Option.some.inj hm
      subst e1
      exact at_nil ⟨rfl, H.less _ (fun fr => by kernel_rfl)⟩
    · replace H := H.know 8 hb (by kernel_rfl)
      refine at_seg [(4, [])] [(0, .str p0), (8, .bool false), (9, .str p0)] H (noU_all rfl) (fun fr => by kernel_rfl) ?_
      intro fr H
      obtain ⟨x2, hx, hm⟩ := bind_some hm
      refine at_step (v := .int .u8 x2) (h1 := h) [(0, .str p0), (8, .bool false), (10, .int .u8 x2)] H (fun fr => by kernel_rfl) (fun fr => .of (s_ixS (by kernel_rfl) hx)) ?_
      intro fr t H
      refine at_seg [(6, []), (7, [])] [(0, .str p0), (12, .bool (decide (x2 ≥ (128 : Int))))] H (noU_all rfl) (fun fr => by kernel_rfl) ?_
      intro fr H
      have e1 := Option.some.inj hm
      subst e1
      exact at_nil ⟨rfl, H.less _ (fun fr => by kernel_rfl)⟩
  · intro t fr h' hK
    obtain ⟨e, H⟩ := hK
    subst e
    refine at_nil ?_
    show AW cfg 52 (⟨h.size, []⟩ : Gd) (right (left (right (bodyC cfg.P 52)))) fr h _
    rcases iteB_some hm with ⟨hb, hm⟩ | ⟨hb, hm⟩
    · replace H := H.know 12 hb (by kernel_rfl)
      refine aw_true (x := .tmp 12) (by kernel_rfl) H (fun fr => by kernel_rfl) ?_
      refine aw_seq (by kernel_rfl) ?_
      refine aw_reg (id := 2) (n := 1) [(0, [])] (by kernel_rfl) (by kernel_rfl) ?_
      refine at_seg [(0, [])] [(2, .bool false)] H (noU_all rfl) (fun fr => by kernel_rfl) ?_
      intro fr H
      refine at_nil ?_
      show AW cfg 52 (⟨h.size, []⟩ : Gd) (right (left (right (left (right (bodyC cfg.P 52)))))) fr h _
      refine aw_ret (by kernel_rfl) ?_
      have e1 := Option.some.inj hm
      subst e1
      exact (doneE_of .ret H (fun fr => by kernel_rfl) (.inl rfl) : doneE cfg.P _ _ _ fr _)
    · replace H := H.know 12 hb (by kernel_rfl)
      refine aw_false (x := .tmp 12) (by kernel_rfl) H (fun fr => by kernel_rfl) ?_
      refine aw_skip (by kernel_rfl) ?_
      show AW cfg 52 (⟨h.size, []⟩ : Gd) (right (right (bodyC cfg.P 52))) fr h _
      refine aw_seq (by kernel_rfl) ?_
      refine aw_reg (id := 3) (n := 8) [(0, []), (1, []), (2, []), (3, []), (4, []), (5, []), (6, []), (7, [])] (by kernel_rfl) (by kernel_rfl) ?_
      refine at_seg [(0, [])] [(0, .str p0), (14, .str p0)] H (noU_all rfl) (fun fr => by kernel_rfl) ?_
      intro fr H
      obtain ⟨x3, hx, hm⟩ := bind_some hm
      refine at_step (v := .str x3) (h1 := h) [(0, .str p0), (15, .str x3)] H (fun fr => by kernel_rfl) (fun fr => .of (s_subS (k := .i64) (k' := .i64) (lo := (some (148 : Int))) (hi := (some (156 : Int))) (by kernel_rfl) hx)) ?_
      intro fr t H
      obtain ⟨⟨x4, x5⟩, hx, hm⟩ := bind_some hm
      refine at_step (v := .tuple [.int .i64 x4, .int .i64 x5]) (h1 := h) [(0, .str p0), (16, .tuple [.int .i64 x4, .int .i64 x5])] H (fun fr => by kernel_rfl) (fun fr => Steps.call (by kernel_rfl) (ok_boulterref01_Read hx)) ?_
      intro fr t H
      refine at_seg [(3, []), (4, []), (5, []), (6, []), (7, [])] [(0, .str p0), (3, .int .i64 x4), (4, .int .i64 x5)] H (noU_all rfl) (fun fr => by kernel_rfl) ?_
      intro fr H
      refine at_nil ?_
      show AW cfg 52 (⟨h.size, []⟩ : Gd) (right (right (right (bodyC cfg.P 52)))) fr h _
      refine aw_seq (by kernel_rfl) ?_
      refine aw_reg (id := 4) (n := 15) [(0, []), (1, []), (2, []), (3, []), (4, []), (5, []), (6, []), (7, []), (8, []), (9, []), (10, []), (11, []), (12, []), (13, []), (14, [])] (by kernel_rfl) (by kernel_rfl) ?_
      refine at_seg [(0, []), (1, []), (2, [])] [(0, .str p0), (3, .int .i64 x4), (21, .bool (x5 == (0 : Int)))] H (noU_all rfl) (fun fr => by kernel_rfl) ?_
      intro fr H
      obtain ⟨x6, ho, hm⟩ := bind_some hm
      refine at_cut [(3, []), (4, []), (5, []), (6, []), (7, []), (8, []), (9, []), (10, []), (11, []), (12, []), (13, [])] (fun fr' h' => h = h' ∧ Has fr' 33 [(32, .bool x6)]) ?_ ?_
      · rcases iteB_some ho with ⟨hb, hm⟩ | ⟨hb, hm⟩
        · replace H := H.know 21 hb (by kernel_rfl)
          refine at_seg [(3, []), (4, [])] [(0, .str p0), (3, .int .i64 x4), (21, .bool true), (22, .int .i64 x4), (23, .str p0)] H (noU_all rfl) (fun fr => by kernel_rfl) ?_
          intro fr H
          obtain ⟨x7, hx, hm⟩ := bind_some hm
          refine at_step (v := .int .i64 x7) (h1 := h) [(0, .str p0), (3, .int .i64 x4), (21, .bool true), (22, .int .i64 x4), (24, .int .i64 x7)] H (fun fr => by kernel_rfl) (fun fr => Steps.call (by kernel_rfl) (ok_boulterref03_Sum hx)) ?_
          intro fr t H
          refine at_seg [(6, []), (7, [])] [(0, .str p0), (3, .int .i64 x4), (21, .bool true), (26, .bool (x4 == x7))] H (noU_all rfl) (fun fr => by kernel_rfl) ?_
          intro fr H
          obtain ⟨x8, ho, hm⟩ := bind_some hm
          refine at_cut [(8, []), (9, []), (10, []), (11, []), (12, [])] (fun fr' h' => h = h' ∧ Has fr' 33 [(21, .bool true), (31, .bool x8)]) ?_ ?_
          · rcases iteB_some ho with ⟨hb, hm⟩ | ⟨hb, hm⟩
            · replace H := H.know 26 hb (by kernel_rfl)
              refine at_seg [(8, []), (9, []), (10, []), (11, []), (12, [])] [(21, .bool true), (31, .bool true)] H (noU_all rfl) (fun fr => by kernel_rfl) ?_
              intro fr H
              have e1 := Option.some.inj hm
              subst e1
              exact at_nil ⟨rfl, H.less _ (fun fr => by kernel_rfl)⟩
            · replace H := H.know 26 hb (by kernel_rfl)
              refine at_seg [(8, []), (9, [])] [(21, .bool true), (26, .bool false), (27, .int .i64 x4), (28, .str p0)] H (noU_all rfl) (fun fr => by kernel_rfl) ?_
              intro fr H
              obtain ⟨x9, hx, hm⟩ := bind_some hm
              refine at_step (v := .int .i64 x9) (h1 := h) [(21, .bool true), (26, .bool false), (27, .int .i64 x4), (29, .int .i64 x9)] H (fun fr => by kernel_rfl) (fun fr => Steps.call (by kernel_rfl) (ok_boulterref03_Sum hx)) ?_
              intro fr t H
              refine at_seg [(11, []), (12, [])] [(21, .bool true), (31, .bool (x4 == x9))] H (noU_all rfl) (fun fr => by kernel_rfl) ?_
              intro fr H
              have e1 := Option.some.inj hm
              subst e1
              exact at_nil ⟨rfl, H.less _ (fun fr => by kernel_rfl)⟩
          · intro t fr h' hK
            obtain ⟨e, H⟩ := hK
            subst e
            refine at_seg [(13, [])] [(32, .bool x8)] H (noU_all rfl) (fun fr => by kernel_rfl) ?_
            intro fr H
            have e1 := Option.some.inj hm
            subst e1
            exact at_nil ⟨rfl, H.less _ (fun fr => by kernel_rfl)⟩
        · replace H := H.know 21 hb (by kernel_rfl)
          refine at_seg [(3, []), (4, []), (5, []), (6, []), (7, []), (8, []), (9, []), (10, []), (11, []), (12, []), (13, [])] [(32, .bool false)] H (noU_all rfl) (fun fr => by kernel_rfl) ?_
          intro fr H
          have e1 := Option.some.inj hm
          subst e1
          exact at_nil ⟨rfl, H.less _ (fun fr => by kernel_rfl)⟩
      · intro t fr h' hK
        obtain ⟨e, H⟩ := hK
        subst e
        refine at_seg [(14, [])] [(2, .bool x6)] H (noU_all rfl) (fun fr => by kernel_rfl) ?_
        intro fr H
        refine at_nil ?_
        show AW cfg 52 (⟨h.size, []⟩ : Gd) (right (right (right (right (bodyC cfg.P 52))))) fr h _
        refine aw_ret (by kernel_rfl) ?_
        have e1 := Option.some.inj hm
        subst e1
        exact (doneE_of .ret H (fun fr => by kernel_rfl) (.inl rfl) : doneE cfg.P _ _ _ fr _)
end Go.Abs.L
