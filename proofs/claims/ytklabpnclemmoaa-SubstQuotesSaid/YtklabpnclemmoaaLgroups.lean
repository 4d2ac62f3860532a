/-
  Models of functions of package groups, and that the abstract run tells them. Written by lift.py.
-/
import Derived.Test.YtklabpnclemmoaaLCfg
namespace Go.Abs.L
open Go.Abs
set_option linter.unusedVariables false
/-! ### boulter/groups.Text -/
noncomputable def M_groups_Text (h : AHeap) (p0 : List UInt8) (p1 : List AVal) : Option ((List UInt8)) :=
 need (p1.all AVal.one) <| (some (h.push (.cells none 2 p1))).bind fun h1 => (ldB h1 (h.size, 2)).bind fun x1 => (iteB (!x1) (some true) ((ldI h1 (h.size, 0) .i64).bind fun x3 => some (decide (x3 < (0 : Int)))) : Option (Bool)).bind fun x2 => (iteB x2 (some true) ((ldI h1 (h.size, 1) .i64).bind fun x5 => (ldI h1 (h.size, 0) .i64).bind fun x6 => some (decide (x5 < x6))) : Option (Bool)).bind fun x4 => (iteB x4 (some true) ((ldI h1 (h.size, 1) .i64).bind fun x8 => some (decide (x8 > (p0.length : Int)))) : Option (Bool)).bind fun x7 => iteB x7 (some ([] : List UInt8)) ((ldI h1 (h.size, 0) .i64).bind fun x9 => (ldI h1 (h.size, 1) .i64).bind fun x10 => (subS p0 (some x9) (some x10)).bind fun x11 => some x11)
theorem ok_groups_Text {g : Gd} {h : AHeap} {p0 : List UInt8} {p1 : List AVal} {r0 : List UInt8} (hm : M_groups_Text h p0 p1 = some r0) : Runs cfg g h 70 [.str p0, .agg p1] (.str r0) h := by
  refine runs2E (by kernel_rfl) (by kernel_rfl) (body_ofE (n := 33) (rs := [.tmp 4]) (by kernel_rfl) ?_)
  unfold M_groups_Text at hm
  refine start (n := 33) [(0, .str p0), (1, .agg p1)] (by kernel_rfl) (by kernel_rfl) ?_
  intro fr H
  refine aw_seq (by kernel_rfl) ?_
  refine aw_reg (id := 0) (n := 2) [(0, []), (1, [])] (by kernel_rfl) (by kernel_rfl) ?_
  obtain ⟨hb, hm⟩ := need_some hm
  obtain ⟨h1, hx, hm⟩ := bind_some hm
  refine at_step (v := .ptr (some (h.size, 0))) (h1 := h1) [(0, .str p0), (3, .ptr (some (h.size, 0)))] H (fun fr => by kernel_rfl) (fun fr => .of (s_boxG (by kernel_rfl) hb hx)) ?_
  intro fr t H
  refine at_seg [(1, [])] [(0, .str p0), (3, .ptr (some (h.size, 0)))] H (noU_all rfl) (fun fr => by kernel_rfl) ?_
  intro fr H
  refine at_nil ?_
  show AW cfg 70 (⟨h.size, []⟩ : Gd) (right (bodyC cfg.P 70)) fr h1 _
  refine aw_seq (by kernel_rfl) ?_
  refine aw_seq (by kernel_rfl) ?_
  refine aw_reg (id := 1) (n := 22) [(0, []), (1, []), (2, []), (3, []), (4, []), (5, []), (6, []), (7, []), (8, []), (9, []), (10, []), (11, []), (12, []), (13, []), (14, []), (15, []), (16, []), (17, []), (18, []), (19, []), (20, []), (21, [])] (by kernel_rfl) (by kernel_rfl) ?_
  refine at_seg [(0, [])] [(0, .str p0), (3, .ptr (some (h.size, 0))), (5, .ptr (some (h.size, 2)))] H (noU_all rfl) (fun fr => by kernel_rfl) ?_
  intro fr H
  obtain ⟨x1, hx, hm⟩ := bind_some hm
  refine at_step (v := .bool x1) (h1 := h1) [(0, .str p0), (3, .ptr (some (h.size, 0))), (6, .bool x1)] H (fun fr => by kernel_rfl) (fun fr => .of (s_ld (by kernel_rfl) (ldB_eq hx))) ?_
  intro fr t H
  refine at_seg [(2, []), (3, [])] [(0, .str p0), (3, .ptr (some (h.size, 0))), (8, .bool (!x1))] H (noU_all rfl) (fun fr => by kernel_rfl) ?_
  intro fr H
  obtain ⟨x2, ho, hm⟩ := bind_some hm
  refine at_cut [(4, []), (5, []), (6, []), (7, [])] (fun fr' h' => h1 = h' ∧ Has fr' 33 [(0, .str p0), (3, .ptr (some (h.size, 0))), (12, .bool x2)]) ?_ ?_
  · rcases iteB_some ho with ⟨hb, hm⟩ | ⟨hb, hm⟩
    · replace H := H.know 8 hb (by kernel_rfl)
      refine at_seg [(4, []), (5, []), (6, []), (7, [])] [(0, .str p0), (3, .ptr (some (h.size, 0))), (12, .bool true)] H (noU_all rfl) (fun fr => by kernel_rfl) ?_
      intro fr H
      have e1 := Option.some.inj hm
      subst e1
      exact at_nil ⟨rfl, H.less _ (fun fr => by kernel_rfl)⟩
    · replace H := H.know 8 hb (by kernel_rfl)
      refine at_seg [(4, [])] [(0, .str p0), (3, .ptr (some (h.size, 0))), (8, .bool false), (9, .ptr (some (h.size, 0)))] H (noU_all rfl) (fun fr => by kernel_rfl) ?_
      intro fr H
      obtain ⟨x3, hx, hm⟩ := bind_some hm
      refine at_step (v := .int .i64 x3) (h1 := h1) [(0, .str p0), (3, .ptr (some (h.size, 0))), (8, .bool false), (10, .int .i64 x3)] H (fun fr => by kernel_rfl) (fun fr => .of (s_ld (by kernel_rfl) (ldI_eq hx))) ?_
      intro fr t H
      refine at_seg [(6, []), (7, [])] [(0, .str p0), (3, .ptr (some (h.size, 0))), (12, .bool (decide (x3 < (0 : Int))))] H (noU_all rfl) (fun fr => by kernel_rfl) ?_
      intro fr H
      have e1 := Option.some.inj hm
      subst e1
      exact at_nil ⟨rfl, H.less _ (fun fr => by kernel_rfl)⟩
  · intro t fr h' hK
    obtain ⟨e, H⟩ := hK
    subst e
    refine at_seg [(8, [])] [(0, .str p0), (3, .ptr (some (h.size, 0))), (13, .bool x2)] H (noU_all rfl) (fun fr => by kernel_rfl) ?_
    intro fr H
    obtain ⟨x4, ho, hm⟩ := bind_some hm
    refine at_cut [(9, []), (10, []), (11, []), (12, []), (13, []), (14, [])] (fun fr' h' => h1 = h' ∧ Has fr' 33 [(0, .str p0), (3, .ptr (some (h.size, 0))), (19, .bool x4)]) ?_ ?_
    · rcases iteB_some ho with ⟨hb, hm⟩ | ⟨hb, hm⟩
      · replace H := H.know 13 hb (by kernel_rfl)
        refine at_seg [(9, []), (10, []), (11, []), (12, []), (13, []), (14, [])] [(0, .str p0), (3, .ptr (some (h.size, 0))), (19, .bool true)] H (noU_all rfl) (fun fr => by kernel_rfl) ?_
        intro fr H
        have e1 := Option.some.inj hm
        subst e1
        exact at_nil ⟨rfl, H.less _ (fun fr => by kernel_rfl)⟩
      · replace H := H.know 13 hb (by kernel_rfl)
        refine at_seg [(9, [])] [(0, .str p0), (3, .ptr (some (h.size, 0))), (13, .bool false), (14, .ptr (some (h.size, 1)))] H (noU_all rfl) (fun fr => by kernel_rfl) ?_
        intro fr H
        obtain ⟨x5, hx, hm⟩ := bind_some hm
        refine at_step (v := .int .i64 x5) (h1 := h1) [(0, .str p0), (3, .ptr (some (h.size, 0))), (13, .bool false), (15, .int .i64 x5)] H (fun fr => by kernel_rfl) (fun fr => .of (s_ld (by kernel_rfl) (ldI_eq hx))) ?_
        intro fr t H
        refine at_seg [(11, [])] [(0, .str p0), (3, .ptr (some (h.size, 0))), (13, .bool false), (15, .int .i64 x5), (16, .ptr (some (h.size, 0)))] H (noU_all rfl) (fun fr => by kernel_rfl) ?_
        intro fr H
        obtain ⟨x6, hx, hm⟩ := bind_some hm
        refine at_step (v := .int .i64 x6) (h1 := h1) [(0, .str p0), (3, .ptr (some (h.size, 0))), (13, .bool false), (15, .int .i64 x5), (17, .int .i64 x6)] H (fun fr => by kernel_rfl) (fun fr => .of (s_ld (by kernel_rfl) (ldI_eq hx))) ?_
        intro fr t H
        refine at_seg [(13, []), (14, [])] [(0, .str p0), (3, .ptr (some (h.size, 0))), (19, .bool (decide (x5 < x6)))] H (noU_all rfl) (fun fr => by kernel_rfl) ?_
        intro fr H
        have e1 := Option.some.inj hm
        subst e1
        exact at_nil ⟨rfl, H.less _ (fun fr => by kernel_rfl)⟩
    · intro t fr h' hK
      obtain ⟨e, H⟩ := hK
      subst e
      refine at_seg [(15, [])] [(0, .str p0), (3, .ptr (some (h.size, 0))), (20, .bool x4)] H (noU_all rfl) (fun fr => by kernel_rfl) ?_
      intro fr H
      obtain ⟨x7, ho, hm⟩ := bind_some hm
      refine at_cut [(16, []), (17, []), (18, []), (19, []), (20, []), (21, [])] (fun fr' h' => h1 = h' ∧ Has fr' 33 [(0, .str p0), (3, .ptr (some (h.size, 0))), (26, .bool x7)]) ?_ ?_
      · rcases iteB_some ho with ⟨hb, hm⟩ | ⟨hb, hm⟩
        · replace H := H.know 20 hb (by kernel_rfl)
          refine at_seg [(16, []), (17, []), (18, []), (19, []), (20, []), (21, [])] [(0, .str p0), (3, .ptr (some (h.size, 0))), (26, .bool true)] H (noU_all rfl) (fun fr => by kernel_rfl) ?_
          intro fr H
          have e1 := Option.some.inj hm
          subst e1
          exact at_nil ⟨rfl, H.less _ (fun fr => by kernel_rfl)⟩
        · replace H := H.know 20 hb (by kernel_rfl)
          refine at_seg [(16, [])] [(0, .str p0), (3, .ptr (some (h.size, 0))), (20, .bool false), (21, .ptr (some (h.size, 1)))] H (noU_all rfl) (fun fr => by kernel_rfl) ?_
          intro fr H
          obtain ⟨x8, hx, hm⟩ := bind_some hm
          refine at_step (v := .int .i64 x8) (h1 := h1) [(0, .str p0), (3, .ptr (some (h.size, 0))), (20, .bool false), (22, .int .i64 x8)] H (fun fr => by kernel_rfl) (fun fr => .of (s_ld (by kernel_rfl) (ldI_eq hx))) ?_
          intro fr t H
          refine at_seg [(18, []), (19, []), (20, []), (21, [])] [(0, .str p0), (3, .ptr (some (h.size, 0))), (26, .bool (decide (x8 > (p0.length : Int))))] H (noU_all rfl) (fun fr => by kernel_rfl) ?_
          intro fr H
          have e1 := Option.some.inj hm
          subst e1
          exact at_nil ⟨rfl, H.less _ (fun fr => by kernel_rfl)⟩
      · intro t fr h' hK
        obtain ⟨e, H⟩ := hK
        subst e
        refine at_nil ?_
        show AW cfg 70 (⟨h.size, []⟩ : Gd) (right (left (right (bodyC cfg.P 70)))) fr h1 _
        rcases iteB_some hm with ⟨hb, hm⟩ | ⟨hb, hm⟩
        · replace H := H.know 26 hb (by kernel_rfl)
          refine aw_true (x := .tmp 26) (by kernel_rfl) H (fun fr => by kernel_rfl) ?_
          refine aw_seq (by kernel_rfl) ?_
          refine aw_reg (id := 2) (n := 1) [(0, [])] (by kernel_rfl) (by kernel_rfl) ?_
          refine at_seg [(0, [])] [(4, .str ([] : List UInt8))] H (noU_all rfl) (fun fr => by kernel_rfl) ?_
          intro fr H
          refine at_nil ?_
          show AW cfg 70 (⟨h.size, []⟩ : Gd) (right (left (right (left (right (bodyC cfg.P 70)))))) fr h1 _
          refine aw_ret (by kernel_rfl) ?_
          have e1 := Option.some.inj hm
          subst e1
          exact (doneE_of .ret H (fun fr => by kernel_rfl) (.inl rfl) : doneE cfg.P _ _ _ fr _)
        · replace H := H.know 26 hb (by kernel_rfl)
          refine aw_false (x := .tmp 26) (by kernel_rfl) H (fun fr => by kernel_rfl) ?_
          refine aw_skip (by kernel_rfl) ?_
          show AW cfg 70 (⟨h.size, []⟩ : Gd) (right (right (bodyC cfg.P 70))) fr h1 _
          refine aw_seq (by kernel_rfl) ?_
          refine aw_reg (id := 3) (n := 7) [(0, []), (1, []), (2, []), (3, []), (4, []), (5, []), (6, [])] (by kernel_rfl) (by kernel_rfl) ?_
          refine at_seg [(0, []), (1, [])] [(3, .ptr (some (h.size, 0))), (27, .str p0), (28, .ptr (some (h.size, 0)))] H (noU_all rfl) (fun fr => by kernel_rfl) ?_
          intro fr H
          obtain ⟨x9, hx, hm⟩ := bind_some hm
          refine at_step (v := .int .i64 x9) (h1 := h1) [(3, .ptr (some (h.size, 0))), (27, .str p0), (29, .int .i64 x9)] H (fun fr => by kernel_rfl) (fun fr => .of (s_ld (by kernel_rfl) (ldI_eq hx))) ?_
          intro fr t H
          refine at_seg [(3, [])] [(27, .str p0), (29, .int .i64 x9), (30, .ptr (some (h.size, 1)))] H (noU_all rfl) (fun fr => by kernel_rfl) ?_
          intro fr H
          obtain ⟨x10, hx, hm⟩ := bind_some hm
          refine at_step (v := .int .i64 x10) (h1 := h1) [(27, .str p0), (29, .int .i64 x9), (31, .int .i64 x10)] H (fun fr => by kernel_rfl) (fun fr => .of (s_ld (by kernel_rfl) (ldI_eq hx))) ?_
          intro fr t H
          obtain ⟨x11, hx, hm⟩ := bind_some hm
          refine at_step (v := .str x11) (h1 := h1) [(32, .str x11)] H (fun fr => by kernel_rfl) (fun fr => .of (s_subS (k := .i64) (k' := .i64) (lo := (some x9)) (hi := (some x10)) (by kernel_rfl) hx)) ?_
          intro fr t H
          refine at_seg [(6, [])] [(4, .str x11)] H (noU_all rfl) (fun fr => by kernel_rfl) ?_
          intro fr H
          refine at_nil ?_
          show AW cfg 70 (⟨h.size, []⟩ : Gd) (right (right (right (bodyC cfg.P 70)))) fr h1 _
          refine aw_ret (by kernel_rfl) ?_
          have e1 := Option.some.inj hm
          subst e1
          exact (doneE_of .ret H (fun fr => by kernel_rfl) (.inl rfl) : doneE cfg.P _ _ _ fr _)
end Go.Abs.L
